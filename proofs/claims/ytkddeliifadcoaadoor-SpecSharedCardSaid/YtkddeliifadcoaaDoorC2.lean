/-
  CONTRACTS: the checker's division, rank, coupler.
-/
import Derived.Test.YtkddeliifadcoaaDoorC1
import Derived.Deep.QuietTactic
import Derived.BigQuiet
namespace Go.Proofs.YtkddeliifadcoaaDoor
open Go.RowKit
theorem only_below {a w w' : World} {r : Nat} (h : a.grownBy w (some r)) (hb : Below a.heap.size w w') : a.grownBy w' (some r) :=
  ⟨hb.os.trans h.os, hb.tape.trans h.tape, hb.output.trans h.output, Nat.le_trans h.size hb.size, fun i hi hne => (hb.block i hi).trans (h.block i hi hne)⟩
theorem only_trans {a b c : World} {r : Nat} (h : a.grownBy b (some r)) (k : b.grownBy c (some r)) : a.grownBy c (some r) :=
  ⟨k.os.trans h.os, k.tape.trans h.tape, k.output.trans h.output, Nat.le_trans h.size k.size, fun i hi hne => (k.block i (Nat.lt_of_lt_of_le hi h.size) hne).trans (h.block i hi hne)⟩
theorem only_of {w w' : World} (r : Nat) (hb : Below w.heap.size w w') : w.grownBy w' (some r) := only_below (World.grownBy.refl _ _) hb
theorem only_trail {a b c : World} {r : Nat} (h : a.grownBy b (some r)) (hb : Below b.heap.size b c) : a.grownBy c (some r) := only_trans h (only_of r hb)
theorem Blk.kept {W W' : World} {B : Nat} {t : TypeId} {cs : Array Value} {row : Option Nat} (h : Blk W B t cs) (hg : W.grownBy W' row) (hne : some B ≠ row) : Blk W' B t cs := (hg.block B h.lt hne).trans h
theorem Chk.trail {w w' : World} {Bc Bm n : Nat} {v1 v2 v3 v4 : Value} {ks : List (List UInt8 × List UInt8)} (h : Chk w Bc Bm n v1 v2 v3 v4 ks) (hb : Below w.heap.size w w') : Chk w' Bc Bm n v1 v2 v3 v4 ks := h.below hb
/-- The kinds of names. -/
def dvK : List UInt8 := [100, 105, 118, 105, 115, 105, 111, 110]
def rkK : List UInt8 := [114, 97, 110, 107]
def cpK : List UInt8 := [99, 111, 117, 112, 108, 101, 114]
/-- The error of a name, by what has been seen. -/
def seenE (k : List UInt8) (nm : ByteArray) (ks : List (List UInt8 × List UInt8)) (next : Int) : Int := if nameB (L nm) = false then 6 else if (k, L nm) ∈ ks then 8 else next
theorem seenE_form {k : List UInt8} {nm : ByteArray} {ks : List (List UInt8 × List UInt8)} {n : Int} (h : nameB (L nm) = false) : seenE k nm ks n = 6 := by unfold seenE; rw [if_pos h]
theorem seenE_twice {k : List UInt8} {nm : ByteArray} {ks : List (List UInt8 × List UInt8)} {n : Int} (h : nameB (L nm) = true) (hm : (k, L nm) ∈ ks) : seenE k nm ks n = 8 := by unfold seenE; rw [if_neg (by rw [h]; decide), if_pos hm]
theorem seenE_next {k : List UInt8} {nm : ByteArray} {ks : List (List UInt8 × List UInt8)} {n : Int} (h : nameB (L nm) = true) (hm : (k, L nm) ∉ ks) : seenE k nm ks n = n := by unfold seenE; rw [if_neg (by rw [h]; decide), if_neg hm]
/-- How a check of a named element ends. -/
def CkEnds (Bc Bm n : Nat) (v1 v2 v3 v4 : Value) (k nm : List UInt8) (ks : List (List UInt8 × List UInt8)) (E : Int) (w : World) (e : Ending) (w' : World) : Prop :=
  e = .returned (.int .i64 E) ∧ w.grownBy w' (some Bm) ∧ (E = 0 → Chk w' Bc Bm (n + 1) v1 v2 v3 v4 ((k, nm) :: ks))
theorem ckEnds_bad {Bc Bm n : Nat} {v1 v2 v3 v4 : Value} {k nm : List UInt8} {ks : List (List UInt8 × List UInt8)} {E x : Int} {w w' : World} (hx : E = x) (h0 : x ≠ 0) (hg : w.grownBy w' (some Bm)) : CkEnds Bc Bm n v1 v2 v3 v4 k nm ks E w (.returned (.int .i64 x)) w' :=
  ⟨by rw [hx], hg, fun h => absurd (hx.symm.trans h) h0⟩
theorem ckEnds_good {Bc Bm n : Nat} {v1 v2 v3 v4 : Value} {k nm : List UInt8} {ks : List (List UInt8 × List UInt8)} {E : Int} {w w' : World} (hx : E = 0) (hg : w.grownBy w' (some Bm)) (hc : Chk w' Bc Bm (n + 1) v1 v2 v3 v4 ((k, nm) :: ks)) : CkEnds Bc Bm n v1 v2 v3 v4 k nm ks E w (.returned (.int .i64 0)) w' :=
  ⟨by rw [hx], hg, fun _ => hc⟩
set_option maxRecDepth 100000 in
set_option maxHeartbeats 3200000 in
theorem division_any (d : Dv) (Bc Bm n : Nat) (v1 v2 v3 v4 : Value) (ks : List (List UInt8 × List UInt8)) (w : World) (hc : Chk w Bc Bm n v1 v2 v3 v4 ks) (hn : n ≤ 100000) (hz : d.name.size ≤ 1000) :
    Calls Tryd.prog 21 #[.pointer (some ⟨Bc, 0, none⟩), .agg #[.string d.name, .int .i64 d.lo, .int .i64 d.hi]] w (CkEnds Bc Bm n v1 v2 v3 v4 dvK (L d.name) ks (seenE dvK d.name ks (dvE d)) w) := by
  have hb0 : Below w.heap.size w (w.alloc (.cells #[.string d.name, .int .i64 d.lo, .int .i64 d.hi] 54)) := (Below.refl _ _).alloc (Nat.le_refl _) _
  have hc0 := hc.below hb0
  have k0 : Blk (w.alloc (.cells #[.string d.name, .int .i64 d.lo, .int .i64 d.hi] 54)) w.heap.size 54 #[.string d.name, .int .i64 d.lo, .int .i64 d.hi] := Blk.new _ _ _
  have hg0 : w.grownBy (w.alloc (.cells #[.string d.name, .int .i64 d.lo, .int .i64 d.hi] 54)) (some Bm) := only_of Bm hb0
  have hkb : (⟨#[100, 105, 118, 105, 115, 105, 111, 110]⟩ : ByteArray).size ≤ 1000 := by decide
  have hmlt := hc.seen.lt
  cases hnm : nameB (L d.name) with
  | false =>
    have HE := Lib.hid (seenE_form (k := dvK) (ks := ks) (n := dvE d) hnm)
    have CN := Lib.hid (fun W => named_form ⟨#[100, 105, 118, 105, 115, 105, 111, 110]⟩ d.name (.pointer (some ⟨Bc, 0, none⟩)) W hz hnm)
    clear hnm
    go_enter Tryd.func21, Tryd.ntmps21
    go_wp2_with (go_at_call 45; with_reducible refine (CN.out _).mono ?_; rintro e w' ⟨rfl, rfl⟩)
    go_ret
    exact ckEnds_bad HE.out (by decide) hg0
  | true =>
    by_cases hm : (dvK, L d.name) ∈ ks
    · have HE := Lib.hid (seenE_twice (n := dvE d) hnm hm)
      have CN := Lib.hid (named_twice ⟨#[100, 105, 118, 105, 115, 105, 111, 110]⟩ d.name Bc Bm n v1 v2 v3 v4 ks _ hc0 hkb hz hnm hm)
      clear hnm hm
      go_enter Tryd.func21, Tryd.ntmps21
      go_wp2_with (go_at_call 45; with_reducible refine (CN.out).mono ?_; rintro e w' ⟨rfl, rfl⟩)
      go_ret
      exact ckEnds_bad HE.out (by decide) hg0
    · have HE := Lib.hid (seenE_next (n := dvE d) hnm hm)
      have CN := Lib.hid (named_new ⟨#[100, 105, 118, 105, 115, 105, 111, 110]⟩ d.name Bc Bm n v1 v2 v3 v4 ks _ hc0 hn hkb hz hnm hm)
      clear hnm hm
      by_cases h1 : 0 ≤ d.lo ∧ d.lo ≤ 127
      · obtain ⟨h1a, h1b⟩ := h1
        have W1 := Lib.hid (fun W => within_yes d.lo 0 127 W h1a h1b)
        by_cases h2 : d.lo ≤ d.hi ∧ d.hi ≤ min 127 (d.lo + 61 - 1)
        · have W2 := Lib.hid (fun W => within_yes d.hi d.lo (min 127 (d.lo + 61 - 1)) W h2.1 h2.2)
          have HD := Lib.hid (show dvE d = 0 by unfold dvE; rw [if_pos (by omega)])
          clear h2
          go_enter Tryd.func21, Tryd.ntmps21
          go_wp2_with (go_at_call 45; with_reducible refine (CN.out).mono ?_; rintro e w1 ⟨rfl, hc1, hg1⟩; have hgw := only_trans hg0 hg1; have k1 := k0.kept hg1 (fun e => by have := Option.some.inj e; omega); have x0 := k1.cell 0; have x1 := k1.cell 1; have x2 := k1.cell 2)
          go_wp2_with (first | (go_at_call 35; with_reducible refine (W1.out _).mono ?_; rintro e w' ⟨rfl, rfl⟩) | (go_at_call 35; with_reducible refine (W2.out _).mono ?_; rintro e w' ⟨rfl, rfl⟩))
          go_ret
          exact ckEnds_good (HE.out.trans HD.out) hgw hc1
        · have W2 := Lib.hid (fun W => within_no d.hi d.lo (min 127 (d.lo + 61 - 1)) W h2)
          have HD := Lib.hid (show dvE d = 7 by unfold dvE; rw [if_neg (by omega)])
          clear h2
          go_enter Tryd.func21, Tryd.ntmps21
          go_wp2_with (go_at_call 45; with_reducible refine (CN.out).mono ?_; rintro e w1 ⟨rfl, hc1, hg1⟩; have hgw := only_trans hg0 hg1; have k1 := k0.kept hg1 (fun e => by have := Option.some.inj e; omega); have x0 := k1.cell 0; have x1 := k1.cell 1; have x2 := k1.cell 2)
          go_wp2_with (first | (go_at_call 35; with_reducible refine (W1.out _).mono ?_; rintro e w' ⟨rfl, rfl⟩) | (go_at_call 35; with_reducible refine (W2.out _).mono ?_; rintro e w' ⟨rfl, rfl⟩))
          go_ret
          exact ckEnds_bad (HE.out.trans HD.out) (by decide) hgw
      · have W1 := Lib.hid (fun W => within_no d.lo 0 127 W h1)
        have HD := Lib.hid (show dvE d = 7 by unfold dvE; rw [if_neg (by omega)])
        clear h1
        go_enter Tryd.func21, Tryd.ntmps21
        go_wp2_with (go_at_call 45; with_reducible refine (CN.out).mono ?_; rintro e w1 ⟨rfl, hc1, hg1⟩; have hgw := only_trans hg0 hg1; have k1 := k0.kept hg1 (fun e => by have := Option.some.inj e; omega); have x0 := k1.cell 0; have x1 := k1.cell 1; have x2 := k1.cell 2)
        go_wp2_with (go_at_call 35; with_reducible refine (W1.out _).mono ?_; rintro e w' ⟨rfl, rfl⟩)
        go_ret
        exact ckEnds_bad (HE.out.trans HD.out) (by decide) hgw
set_option maxRecDepth 100000 in
set_option maxHeartbeats 3200000 in
theorem rank_any (r : Rk) (Bc Bm n : Nat) (v1 v2 v3 v4 : Value) (ks : List (List UInt8 × List UInt8)) (w : World) (t : Tabs w) (hr : TabLt Bm) (hc : Chk w Bc Bm n v1 v2 v3 v4 ks) (hn : n ≤ 100000) (hz : r.name.size ≤ 1000) :
    Calls Tryd.prog 23 #[.pointer (some ⟨Bc, 0, none⟩), .agg #[.string r.name, .int .i64 r.kind, .int .i64 r.num, .int .i64 r.den, .int .i64 r.low, .int .i64 r.cnt]] w (CkEnds Bc Bm n v1 v2 v3 v4 rkK (L r.name) ks (seenE rkK r.name ks (rkE r)) w) := by
  have hb0 : Below w.heap.size w (w.alloc (.cells #[.string r.name, .int .i64 r.kind, .int .i64 r.num, .int .i64 r.den, .int .i64 r.low, .int .i64 r.cnt] 58)) := (Below.refl _ _).alloc (Nat.le_refl _) _
  have hc0 := hc.below hb0
  have k0 : Blk (w.alloc (.cells #[.string r.name, .int .i64 r.kind, .int .i64 r.num, .int .i64 r.den, .int .i64 r.low, .int .i64 r.cnt] 58)) w.heap.size 58 #[.string r.name, .int .i64 r.kind, .int .i64 r.num, .int .i64 r.den, .int .i64 r.low, .int .i64 r.cnt] := Blk.new _ _ _
  have hg0 : w.grownBy (w.alloc (.cells #[.string r.name, .int .i64 r.kind, .int .i64 r.num, .int .i64 r.den, .int .i64 r.low, .int .i64 r.cnt] 58)) (some Bm) := only_of Bm hb0
  have hkb : (⟨#[114, 97, 110, 107]⟩ : ByteArray).size ≤ 1000 := by decide
  have hmlt := hc.seen.lt
  have t0 := t.below hb0
  cases hnm : nameB (L r.name) with
  | false =>
    have HE := Lib.hid (seenE_form (k := rkK) (ks := ks) (n := rkE r) hnm)
    have CN := Lib.hid (fun W => named_form ⟨#[114, 97, 110, 107]⟩ r.name (.pointer (some ⟨Bc, 0, none⟩)) W hz hnm)
    clear hnm
    go_enter Tryd.func23, Tryd.ntmps23
    go_wp2_with (go_at_call 45; with_reducible refine (CN.out _).mono ?_; rintro e w' ⟨rfl, rfl⟩)
    go_ret
    exact ckEnds_bad HE.out (by decide) hg0
  | true =>
    by_cases hm : (rkK, L r.name) ∈ ks
    · have HE := Lib.hid (seenE_twice (n := rkE r) hnm hm)
      have CN := Lib.hid (named_twice ⟨#[114, 97, 110, 107]⟩ r.name Bc Bm n v1 v2 v3 v4 ks _ hc0 hkb hz hnm hm)
      clear hnm hm
      go_enter Tryd.func23, Tryd.ntmps23
      go_wp2_with (go_at_call 45; with_reducible refine (CN.out).mono ?_; rintro e w' ⟨rfl, rfl⟩)
      go_ret
      exact ckEnds_bad HE.out (by decide) hg0
    · have HE := Lib.hid (seenE_next (n := rkE r) hnm hm)
      have CN := Lib.hid (named_new ⟨#[114, 97, 110, 107]⟩ r.name Bc Bm n v1 v2 v3 v4 ks _ hc0 hn hkb hz hnm hm)
      clear hnm hm
      by_cases h1 : 1 ≤ r.kind ∧ r.kind ≤ 4
      · obtain ⟨h1a, h1b⟩ := h1
        have W1 := Lib.hid (fun W => within_yes r.kind 1 4 W h1a h1b)
        by_cases h2 : FeetOk r.num r.den
        · have F1 := Lib.hid (fun W T => footage_yes r.num r.den W T h2)
          by_cases h3 : 1 ≤ r.cnt ∧ r.cnt ≤ 97
          · obtain ⟨h3a, h3b⟩ := h3
            have W2 := Lib.hid (fun W => within_yes r.cnt 1 97 W h3a h3b)
            by_cases h4 : 0 ≤ r.low ∧ r.low ≤ 128 - r.cnt
            · have W3 := Lib.hid (fun W => within_yes r.low 0 (128 - r.cnt) W h4.1 h4.2)
              have HD := Lib.hid (show rkE r = 0 by unfold rkE; rw [if_pos ⟨h1a, h1b, h2⟩, if_pos (by omega)])
              clear h2 h4
              go_enter Tryd.func23, Tryd.ntmps23
              go_wp2_with (go_at_call 45; with_reducible refine (CN.out).mono ?_; rintro e w1 ⟨rfl, hc1, hg1⟩; have hgw := only_trans hg0 hg1; have k1 := k0.kept hg1 (fun e => by have := Option.some.inj e; omega); have x0 := k1.cell 0; have x1 := k1.cell 1; have x2 := k1.cell 2; have x3 := k1.cell 3; have x4 := k1.cell 4; have x5 := k1.cell 5)
              have t1 : Tabs w1 := t.grown hr hgw
              go_wp2_with (first | (go_at_call 35; with_reducible refine (W1.out _).mono ?_; rintro e w' ⟨rfl, rfl⟩) | (go_at_call 46; with_reducible refine (F1.out _ (by assumption)).mono ?_; rintro e w2 ⟨rfl, hb2⟩; have hgw2 := only_trail hgw hb2; have k2 := k1.below hb2; have hc2 := hc1.below hb2; have y0 := k2.cell 0; have y1 := k2.cell 1; have y2 := k2.cell 2; have y3 := k2.cell 3; have y4 := k2.cell 4; have y5 := k2.cell 5) | (go_at_call 35; with_reducible refine (W2.out _).mono ?_; rintro e w' ⟨rfl, rfl⟩) | (go_at_call 35; with_reducible refine (W3.out _).mono ?_; rintro e w' ⟨rfl, rfl⟩))
              go_ret
              exact ckEnds_good (HE.out.trans HD.out) hgw2 hc2
            · have W3 := Lib.hid (fun W => within_no r.low 0 (128 - r.cnt) W h4)
              have HD := Lib.hid (show rkE r = 7 by unfold rkE; rw [if_pos ⟨h1a, h1b, h2⟩, if_neg (by omega)])
              clear h2 h4
              go_enter Tryd.func23, Tryd.ntmps23
              go_wp2_with (go_at_call 45; with_reducible refine (CN.out).mono ?_; rintro e w1 ⟨rfl, hc1, hg1⟩; have hgw := only_trans hg0 hg1; have k1 := k0.kept hg1 (fun e => by have := Option.some.inj e; omega); have x0 := k1.cell 0; have x1 := k1.cell 1; have x2 := k1.cell 2; have x3 := k1.cell 3; have x4 := k1.cell 4; have x5 := k1.cell 5)
              have t1 : Tabs w1 := t.grown hr hgw
              go_wp2_with (first | (go_at_call 35; with_reducible refine (W1.out _).mono ?_; rintro e w' ⟨rfl, rfl⟩) | (go_at_call 46; with_reducible refine (F1.out _ (by assumption)).mono ?_; rintro e w2 ⟨rfl, hb2⟩; have hgw2 := only_trail hgw hb2; have k2 := k1.below hb2; have hc2 := hc1.below hb2; have y0 := k2.cell 0; have y1 := k2.cell 1; have y2 := k2.cell 2; have y3 := k2.cell 3; have y4 := k2.cell 4; have y5 := k2.cell 5) | (go_at_call 35; with_reducible refine (W2.out _).mono ?_; rintro e w' ⟨rfl, rfl⟩) | (go_at_call 35; with_reducible refine (W3.out _).mono ?_; rintro e w' ⟨rfl, rfl⟩))
              go_ret
              exact ckEnds_bad (HE.out.trans HD.out) (by decide) hgw2
          · have W2 := Lib.hid (fun W => within_no r.cnt 1 97 W h3)
            have HD := Lib.hid (show rkE r = 7 by unfold rkE; rw [if_pos ⟨h1a, h1b, h2⟩, if_neg (by omega)])
            clear h2 h3
            go_enter Tryd.func23, Tryd.ntmps23
            go_wp2_with (go_at_call 45; with_reducible refine (CN.out).mono ?_; rintro e w1 ⟨rfl, hc1, hg1⟩; have hgw := only_trans hg0 hg1; have k1 := k0.kept hg1 (fun e => by have := Option.some.inj e; omega); have x0 := k1.cell 0; have x1 := k1.cell 1; have x2 := k1.cell 2; have x3 := k1.cell 3; have x4 := k1.cell 4; have x5 := k1.cell 5)
            have t1 : Tabs w1 := t.grown hr hgw
            go_wp2_with (first | (go_at_call 35; with_reducible refine (W1.out _).mono ?_; rintro e w' ⟨rfl, rfl⟩) | (go_at_call 46; with_reducible refine (F1.out _ (by assumption)).mono ?_; rintro e w2 ⟨rfl, hb2⟩; have hgw2 := only_trail hgw hb2; have k2 := k1.below hb2; have hc2 := hc1.below hb2; have y0 := k2.cell 0; have y1 := k2.cell 1; have y2 := k2.cell 2; have y3 := k2.cell 3; have y4 := k2.cell 4; have y5 := k2.cell 5) | (go_at_call 35; with_reducible refine (W2.out _).mono ?_; rintro e w' ⟨rfl, rfl⟩))
            go_ret
            exact ckEnds_bad (HE.out.trans HD.out) (by decide) hgw2
        · have F1 := Lib.hid (fun W => footage_no r.num r.den W h2)
          have HD := Lib.hid (show rkE r = 2 by unfold rkE; rw [if_neg (fun h => h2 h.2.2)])
          clear h2
          go_enter Tryd.func23, Tryd.ntmps23
          go_wp2_with (go_at_call 45; with_reducible refine (CN.out).mono ?_; rintro e w1 ⟨rfl, hc1, hg1⟩; have hgw := only_trans hg0 hg1; have k1 := k0.kept hg1 (fun e => by have := Option.some.inj e; omega); have x0 := k1.cell 0; have x1 := k1.cell 1; have x2 := k1.cell 2; have x3 := k1.cell 3; have x4 := k1.cell 4; have x5 := k1.cell 5)
          have t1 : Tabs w1 := t.grown hr hgw
          go_wp2_with (first | (go_at_call 35; with_reducible refine (W1.out _).mono ?_; rintro e w' ⟨rfl, rfl⟩) | (go_at_call 46; with_reducible refine (F1.out _).mono ?_; rintro e w2 ⟨rfl, hb2⟩; have hgw2 := only_trail hgw hb2; have k2 := k1.below hb2; have hc2 := hc1.below hb2; have y0 := k2.cell 0; have y1 := k2.cell 1; have y2 := k2.cell 2; have y3 := k2.cell 3; have y4 := k2.cell 4; have y5 := k2.cell 5))
          go_ret
          exact ckEnds_bad (HE.out.trans HD.out) (by decide) hgw2
      · have W1 := Lib.hid (fun W => within_no r.kind 1 4 W h1)
        have HD := Lib.hid (show rkE r = 2 by unfold rkE; rw [if_neg (fun h => h1 ⟨h.1, h.2.1⟩)])
        clear h1
        go_enter Tryd.func23, Tryd.ntmps23
        go_wp2_with (go_at_call 45; with_reducible refine (CN.out).mono ?_; rintro e w1 ⟨rfl, hc1, hg1⟩; have hgw := only_trans hg0 hg1; have k1 := k0.kept hg1 (fun e => by have := Option.some.inj e; omega); have x0 := k1.cell 0; have x1 := k1.cell 1; have x2 := k1.cell 2; have x3 := k1.cell 3; have x4 := k1.cell 4; have x5 := k1.cell 5)
        have t1 : Tabs w1 := t.grown hr hgw
        go_wp2_with (go_at_call 35; with_reducible refine (W1.out _).mono ?_; rintro e w' ⟨rfl, rfl⟩)
        go_ret
        exact ckEnds_bad (HE.out.trans HD.out) (by decide) hgw
end Go.Proofs.YtkddeliifadcoaaDoor
