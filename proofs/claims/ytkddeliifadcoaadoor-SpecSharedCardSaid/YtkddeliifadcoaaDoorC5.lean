/-
  CONTRACTS: the checker's stop.
-/
import Derived.Test.YtkddeliifadcoaaDoorC4
import Derived.Deep.RegionWith
namespace Go.Proofs.YtkddeliifadcoaaDoor
open Go.RowKit
set_option maxHeartbeats 400000 in
theorem digits_as (n : Int) (s : ByteArray) (hs : L s = Lib.itoa n) (w : World) (h1 : -9223372036854775808 ≤ n) (h2 : n ≤ 9223372036854775807) (t : Tabs w) :
    Calls Tryd.prog 48 #[.int .i64 n] w fun e w' => e = .returned (.string s) ∧ Below w.heap.size w w' := by
  have C := formatInt_any n w h1 h2 t
  rw [mk_of_L hs] at C
  have H := Lib.hid C
  clear C hs
  go_enter Tryd.func48, Tryd.ntmps48
  go_wp2_with (go_at_call 59; refine (H.out).mono ?_; rintro e w' ⟨rfl, hb⟩)
  go_ret
  exact ⟨rfl, hb⟩
def stK (n : Int) : List UInt8 := [115, 116, 111, 112, 32] ++ Lib.itoa n
/-- What is known ahead of the name's test. -/
def stE0 (x : St) (nd : Nat) (ks : List (List UInt8 × List UInt8)) : Int := if nameB (L x.name) = false then 6 else if 0 ≤ x.div ∧ x.div < nd then seenE (stK x.div) x.name ks (stE x) else 4
theorem stE0_form {x : St} {nd : Nat} {ks : List (List UInt8 × List UInt8)} (h : nameB (L x.name) = false) : stE0 x nd ks = 6 := by unfold stE0; rw [if_pos h]
theorem stE0_none {x : St} {nd : Nat} {ks : List (List UInt8 × List UInt8)} (h : nameB (L x.name) = true) (hd : ¬ (0 ≤ x.div ∧ x.div < nd)) : stE0 x nd ks = 4 := by unfold stE0; rw [if_neg (by rw [h]; decide), if_neg hd]
theorem stE0_next {x : St} {nd : Nat} {ks : List (List UInt8 × List UInt8)} (h : nameB (L x.name) = true) (hd : 0 ≤ x.div ∧ x.div < nd) : stE0 x nd ks = seenE (stK x.div) x.name ks (stE x) := by unfold stE0; rw [if_neg (by rw [h]; decide), if_pos hd]
set_option maxRecDepth 100000 in
set_option maxHeartbeats 3200000 in
theorem stop_early (x : St) (pv : Value) (nd : Nat) (Bc Bm n : Nat) (a1 : Option Addr) (c1 : Nat) (v2 v3 v4 : Value) (ks : List (List UInt8 × List UInt8)) (w : World) (hc : Chk w Bc Bm n (.slice a1 nd c1) v2 v3 v4 ks) (hz : x.name.size ≤ 1000) (hs : nd ≤ 1000)
    (h : nameB (L x.name) = false ∨ nameB (L x.name) = true ∧ ¬ (0 ≤ x.div ∧ x.div < nd)) :
    Calls Tryd.prog 24 #[.pointer (some ⟨Bc, 0, none⟩), .agg #[.string x.name, .int .i64 x.div, .int .i64 x.num, .int .i64 x.den, pv]] w (CkEnds Bc Bm n (.slice a1 nd c1) v2 v3 v4 (stK x.div) (L x.name) ks (stE0 x nd ks) w) := by
  have hb0 : Below w.heap.size w (w.alloc (.cells #[.string x.name, .int .i64 x.div, .int .i64 x.num, .int .i64 x.den, pv] 61)) := (Below.refl _ _).alloc (Nat.le_refl _) _
  have hc0 := hc.below hb0
  obtain ⟨z0, z1, z2, z3, z4⟩ := hc0.cells
  have hcast : ((nd : Nat) : Int) ≤ 1000 := by omega
  rcases h with h | ⟨h, hd⟩
  · have CN := Lib.hid (fun W => name_is x.name false h W (by unfold maxLen; omega))
    have HE := Lib.hid (stE0_form (nd := nd) (ks := ks) h)
    clear h
    go_enter Tryd.func24, Tryd.ntmps24
    go_wp2_with (go_at_call 47; with_reducible refine (CN.out _).mono ?_; rintro e w' ⟨rfl, rfl⟩)
    go_ret
    exact ckEnds_bad HE.out (by decide) (only_of Bm hb0)
  · have CN := Lib.hid (fun W => name_is x.name true h W (by unfold maxLen; omega))
    have HE := Lib.hid (stE0_none (ks := ks) h hd)
    have W1 := fun W => within_no' x.div 0 ((nd : Int) - 1) W (by omega)
    clear h hd
    go_enter Tryd.func24, Tryd.ntmps24
    go_wp2_with (go_at_call 47; with_reducible refine (CN.out _).mono ?_; rintro e w' ⟨rfl, rfl⟩)
    go_quiet ((go_at_call 35; exact Calls.quiet_of_same (W1 _)))
    go_wp2
    go_ret
    exact ckEnds_bad HE.out (by decide) (only_of Bm (below_drewN hb0 _))
set_option maxRecDepth 100000 in
set_option maxHeartbeats 6400000 in
theorem stop_twice (x : St) (pv : Value) (nd : Nat) (Bc Bm n : Nat) (a1 : Option Addr) (c1 : Nat) (v2 v3 v4 : Value) (ks : List (List UInt8 × List UInt8)) (w : World) (t : Tabs w) (hc : Chk w Bc Bm n (.slice a1 nd c1) v2 v3 v4 ks) (hz : x.name.size ≤ 1000) (hs : nd ≤ 1000)
    (h : nameB (L x.name) = true) (hd : 0 ≤ x.div ∧ x.div < nd) (hm : (stK x.div, L x.name) ∈ ks) :
    Calls Tryd.prog 24 #[.pointer (some ⟨Bc, 0, none⟩), .agg #[.string x.name, .int .i64 x.div, .int .i64 x.num, .int .i64 x.den, pv]] w (CkEnds Bc Bm n (.slice a1 nd c1) v2 v3 v4 (stK x.div) (L x.name) ks (stE0 x nd ks) w) := by
  have hb0 : Below w.heap.size w (w.alloc (.cells #[.string x.name, .int .i64 x.div, .int .i64 x.num, .int .i64 x.den, pv] 61)) := (Below.refl _ _).alloc (Nat.le_refl _) _
  have hc0 := hc.below hb0
  have k0 : Blk (w.alloc (.cells #[.string x.name, .int .i64 x.div, .int .i64 x.num, .int .i64 x.den, pv] 61)) w.heap.size 61 #[.string x.name, .int .i64 x.div, .int .i64 x.num, .int .i64 x.den, pv] := Blk.new _ _ _
  obtain ⟨z0, z1, z2, z3, z4⟩ := hc0.cells
  have hcast : ((nd : Nat) : Int) ≤ 1000 := by omega
  have CN := Lib.hid (fun W => name_is x.name true h W (by unfold maxLen; omega))
  have W1 := fun W => within_yes' x.div 0 ((nd : Int) - 1) W (by omega) (by omega)
  obtain ⟨ds, hds⟩ := mkL (Lib.itoa x.div)
  have hdz : ds.size ≤ 21 := by rw [size_of_L hds]; exact itoa_le x.div (by omega) (by omega)
  have HE := Lib.hid (stE0_next (ks := ks) h hd)
  have hmlt := hc.seen.lt
  have t0 := t.below hb0
  have p1 : ¬ 9223372036854775807 < 5 + ds.size := by omega
  have hkz : ((⟨#[115, 116, 111, 112, 32]⟩ : ByteArray) ++ ds).size ≤ 1000 := by simp only [ByteArray.size_append]; have : (⟨#[115, 116, 111, 112, 32]⟩ : ByteArray).size = 5 := rfl; omega
  have hkl : L ((⟨#[115, 116, 111, 112, 32]⟩ : ByteArray) ++ ds) = stK x.div := by rw [L_append, hds]; rfl
  have d1 : -9223372036854775808 ≤ x.div := by omega
  have d2 : x.div ≤ 9223372036854775807 := by omega
  have HD := Lib.hid (seenE_twice (n := stE x) h hm)
  have NM0 := fun W (hW : Chk W Bc Bm n (.slice a1 nd c1) v2 v3 v4 ks) => named_twice ((⟨#[115, 116, 111, 112, 32]⟩ : ByteArray) ++ ds) x.name Bc Bm n _ v2 v3 v4 ks W hW hkz hz h (by rw [hkl]; exact hm)
  have HDS := Lib.hid hds
  clear hd h hm hds hkl
  go_enter Tryd.func24, Tryd.ntmps24
  go_wp2_with (go_at_call 47; with_reducible refine (CN.out _).mono ?_; rintro e w' ⟨rfl, rfl⟩)
  go_quiet ((go_at_call 35; exact Calls.quiet_of_same (W1 _)))
  have hB := below_drewN hb0 nq
  have kd := k0.drewN nq
  have kc : Chk ((w.alloc (.cells #[.string x.name, .int .i64 x.div, .int .i64 x.num, .int .i64 x.den, pv] 61)).drewN nq) Bc Bm n (.slice a1 nd c1) v2 v3 v4 ks := hc0.below (below_drewN (Below.refl _ _) nq)
  have t1 := t.below hB
  generalize (w.alloc (.cells #[.string x.name, .int .i64 x.div, .int .i64 x.num, .int .i64 x.den, pv] 61)).drewN nq = w1 at *
  clear z0 z1 z2 z3 z4 hc0 k0 hb0 t0
  have e0 := kd.cell 0
  have e1 := kd.cell 1
  have hdr : Below w1.heap.size w1 w1.drew := (Below.refl _ _).drew
  have hrf : Below w1.heap.size w1 w1 := Below.refl _ _
  have DG := Lib.hid (fun W (hW : Below w1.heap.size w1 W) => (digits_as x.div ds HDS.out W d1 d2 (t1.below hW)).mono fun e w' (h : _ ∧ Below W.heap.size W w') => (⟨h.1, below_step hW h.2⟩ : _ ∧ Below w1.heap.size w1 w'))
  have NM := Lib.hid (fun W (hW : Below w1.heap.size w1 W) => NM0 W (kc.below hW))
  clear NM0
  go_wp2_with fail
  go_region_with (first | (go_at_call 48; refine (DG.out _ (by first | assumption | exact hdr)).mono ?_; rintro e w2 ⟨rfl, hb2⟩; have f0 := (kd.below hb2).cell 0) | (go_at_call 45; refine (NM.out _ (by assumption)).mono ?_; rintro e w' ⟨rfl, rfl⟩))
  all_goals go_wp2
  all_goals go_ret
  all_goals exact ckEnds_bad (HE.out.trans HD.out) (by decide) (only_of Bm (below_step hB (by assumption)))
set_option maxRecDepth 100000 in
set_option maxHeartbeats 6400000 in
theorem stop_nofeet (x : St) (pa : Option Addr) (pc : Nat) (nd : Nat) (Bc Bm n : Nat) (a1 : Option Addr) (c1 : Nat) (v2 v3 v4 : Value) (ks : List (List UInt8 × List UInt8)) (w : World) (t : Tabs w) (hc : Chk w Bc Bm n (.slice a1 nd c1) v2 v3 v4 ks) (hz : x.name.size ≤ 1000) (hs : nd ≤ 1000)
    (h : nameB (L x.name) = true) (hd : 0 ≤ x.div ∧ x.div < nd) (hm : (stK x.div, L x.name) ∉ ks) (hn : n ≤ 100000) (hr : TabLt Bm) (hf : ¬ FeetOk x.num x.den) :
    Calls Tryd.prog 24 #[.pointer (some ⟨Bc, 0, none⟩), .agg #[.string x.name, .int .i64 x.div, .int .i64 x.num, .int .i64 x.den, .slice pa x.parts.length pc]] w (CkEnds Bc Bm n (.slice a1 nd c1) v2 v3 v4 (stK x.div) (L x.name) ks (stE0 x nd ks) w) := by
  have hb0 : Below w.heap.size w (w.alloc (.cells #[.string x.name, .int .i64 x.div, .int .i64 x.num, .int .i64 x.den, .slice pa x.parts.length pc] 61)) := (Below.refl _ _).alloc (Nat.le_refl _) _
  have hc0 := hc.below hb0
  have k0 : Blk (w.alloc (.cells #[.string x.name, .int .i64 x.div, .int .i64 x.num, .int .i64 x.den, .slice pa x.parts.length pc] 61)) w.heap.size 61 #[.string x.name, .int .i64 x.div, .int .i64 x.num, .int .i64 x.den, .slice pa x.parts.length pc] := Blk.new _ _ _
  obtain ⟨z0, z1, z2, z3, z4⟩ := hc0.cells
  have hcast : ((nd : Nat) : Int) ≤ 1000 := by omega
  have CN := Lib.hid (fun W => name_is x.name true h W (by unfold maxLen; omega))
  have W1 := fun W => within_yes' x.div 0 ((nd : Int) - 1) W (by omega) (by omega)
  obtain ⟨ds, hds⟩ := mkL (Lib.itoa x.div)
  have hdz : ds.size ≤ 21 := by rw [size_of_L hds]; exact itoa_le x.div (by omega) (by omega)
  have HE := Lib.hid (stE0_next (ks := ks) h hd)
  have hmlt := hc.seen.lt
  have t0 := t.below hb0
  have p1 : ¬ 9223372036854775807 < 5 + ds.size := by omega
  have hkz : ((⟨#[115, 116, 111, 112, 32]⟩ : ByteArray) ++ ds).size ≤ 1000 := by simp only [ByteArray.size_append]; have : (⟨#[115, 116, 111, 112, 32]⟩ : ByteArray).size = 5 := rfl; omega
  have hkl : L ((⟨#[115, 116, 111, 112, 32]⟩ : ByteArray) ++ ds) = stK x.div := by rw [L_append, hds]; rfl
  have d1 : -9223372036854775808 ≤ x.div := by omega
  have d2 : x.div ≤ 9223372036854775807 := by omega
  have HD := Lib.hid (seenE_next (n := stE x) h hm)
  have NM0 := fun W (hW : Chk W Bc Bm n (.slice a1 nd c1) v2 v3 v4 ks) => named_new ((⟨#[115, 116, 111, 112, 32]⟩ : ByteArray) ++ ds) x.name Bc Bm n _ v2 v3 v4 ks W hW hn hkz hz h (by rw [hkl]; exact hm)
  rw [hkl] at NM0
  have HX := Lib.hid (show stE x = 2 by unfold stE; rw [if_neg (fun h => hf h.1)])
  have F1 := Lib.hid (fun W => footage_no x.num x.den W hf)
  clear hf
  have HDS := Lib.hid hds
  clear hd h hm hds hkl
  go_enter Tryd.func24, Tryd.ntmps24
  go_wp2_with (go_at_call 47; with_reducible refine (CN.out _).mono ?_; rintro e w' ⟨rfl, rfl⟩)
  go_quiet ((go_at_call 35; exact Calls.quiet_of_same (W1 _)))
  have hB := below_drewN hb0 nq
  have kd := k0.drewN nq
  have kc : Chk ((w.alloc (.cells #[.string x.name, .int .i64 x.div, .int .i64 x.num, .int .i64 x.den, .slice pa x.parts.length pc] 61)).drewN nq) Bc Bm n (.slice a1 nd c1) v2 v3 v4 ks := hc0.below (below_drewN (Below.refl _ _) nq)
  have t1 := t.below hB
  generalize (w.alloc (.cells #[.string x.name, .int .i64 x.div, .int .i64 x.num, .int .i64 x.den, .slice pa x.parts.length pc] 61)).drewN nq = w1 at *
  clear z0 z1 z2 z3 z4 hc0 k0 hb0 t0
  have e0 := kd.cell 0
  have e1 := kd.cell 1
  have hdr : Below w1.heap.size w1 w1.drew := (Below.refl _ _).drew
  have hrf : Below w1.heap.size w1 w1 := Below.refl _ _
  have DG := Lib.hid (fun W (hW : Below w1.heap.size w1 W) => (digits_as x.div ds HDS.out W d1 d2 (t1.below hW)).mono fun e w' (h : _ ∧ Below W.heap.size W w') => (⟨h.1, below_step hW h.2⟩ : _ ∧ Below w1.heap.size w1 w'))
  have NM := Lib.hid (fun W (hW : Below w1.heap.size w1 W) => (NM0 W (kc.below hW)).mono fun e w' (h : _ ∧ Chk w' Bc Bm (n + 1) (.slice a1 nd c1) v2 v3 v4 ((stK x.div, L x.name) :: ks) ∧ W.grownBy w' (some Bm)) => (⟨h.1, h.2.1, only_trans (only_of Bm hW) h.2.2⟩ : _ ∧ Chk w' Bc Bm (n + 1) (.slice a1 nd c1) v2 v3 v4 ((stK x.div, L x.name) :: ks) ∧ w1.grownBy w' (some Bm)))
  clear NM0
  go_wp2_with fail
  go_region_with (first | (go_at_call 48; refine (DG.out _ (by first | assumption | exact hdr)).mono ?_; rintro e w2 ⟨rfl, hb2⟩; have f0 := (kd.below hb2).cell 0) | (go_at_call 45; refine (NM.out _ (by assumption)).mono ?_; rintro e w3 ⟨rfl, hc3, hg3⟩; have hgw := only_trans (only_of Bm hB) hg3; have k3 := kd.kept hg3 (fun e => by have := Option.some.inj e; omega); have y0 := k3.cell 0; have y1 := k3.cell 1; have y2 := k3.cell 2; have y3 := k3.cell 3; have y4 := k3.cell 4; have t3 := t1.grown hr hg3))
  all_goals go_wp2_with (go_at_call 46; with_reducible refine (F1.out _).mono ?_; rintro e w4 ⟨rfl, hb4⟩; have hgw2 := only_trail hgw hb4; have k4 := k3.below hb4; have hc4 := hc3.below hb4; have u0 := k4.cell 0; have u1 := k4.cell 1; have u2 := k4.cell 2; have u3 := k4.cell 3; have u4 := k4.cell 4)
  all_goals go_ret
  all_goals exact ckEnds_bad (HE.out.trans (HD.out.trans HX.out)) (by decide) hgw2
set_option maxRecDepth 100000 in
set_option maxHeartbeats 6400000 in
theorem stop_noparts (x : St) (pa : Option Addr) (pc : Nat) (nd : Nat) (Bc Bm n : Nat) (a1 : Option Addr) (c1 : Nat) (v2 v3 v4 : Value) (ks : List (List UInt8 × List UInt8)) (w : World) (t : Tabs w) (hc : Chk w Bc Bm n (.slice a1 nd c1) v2 v3 v4 ks) (hz : x.name.size ≤ 1000) (hs : nd ≤ 1000)
    (h : nameB (L x.name) = true) (hd : 0 ≤ x.div ∧ x.div < nd) (hm : (stK x.div, L x.name) ∉ ks) (hn : n ≤ 100000) (hr : TabLt Bm) (hf : FeetOk x.num x.den) (hp : x.parts.length = 0) :
    Calls Tryd.prog 24 #[.pointer (some ⟨Bc, 0, none⟩), .agg #[.string x.name, .int .i64 x.div, .int .i64 x.num, .int .i64 x.den, .slice pa x.parts.length pc]] w (CkEnds Bc Bm n (.slice a1 nd c1) v2 v3 v4 (stK x.div) (L x.name) ks (stE0 x nd ks) w) := by
  have hb0 : Below w.heap.size w (w.alloc (.cells #[.string x.name, .int .i64 x.div, .int .i64 x.num, .int .i64 x.den, .slice pa x.parts.length pc] 61)) := (Below.refl _ _).alloc (Nat.le_refl _) _
  have hc0 := hc.below hb0
  have k0 : Blk (w.alloc (.cells #[.string x.name, .int .i64 x.div, .int .i64 x.num, .int .i64 x.den, .slice pa x.parts.length pc] 61)) w.heap.size 61 #[.string x.name, .int .i64 x.div, .int .i64 x.num, .int .i64 x.den, .slice pa x.parts.length pc] := Blk.new _ _ _
  obtain ⟨z0, z1, z2, z3, z4⟩ := hc0.cells
  have hcast : ((nd : Nat) : Int) ≤ 1000 := by omega
  have CN := Lib.hid (fun W => name_is x.name true h W (by unfold maxLen; omega))
  have W1 := fun W => within_yes' x.div 0 ((nd : Int) - 1) W (by omega) (by omega)
  obtain ⟨ds, hds⟩ := mkL (Lib.itoa x.div)
  have hdz : ds.size ≤ 21 := by rw [size_of_L hds]; exact itoa_le x.div (by omega) (by omega)
  have HE := Lib.hid (stE0_next (ks := ks) h hd)
  have hmlt := hc.seen.lt
  have t0 := t.below hb0
  have p1 : ¬ 9223372036854775807 < 5 + ds.size := by omega
  have hkz : ((⟨#[115, 116, 111, 112, 32]⟩ : ByteArray) ++ ds).size ≤ 1000 := by simp only [ByteArray.size_append]; have : (⟨#[115, 116, 111, 112, 32]⟩ : ByteArray).size = 5 := rfl; omega
  have hkl : L ((⟨#[115, 116, 111, 112, 32]⟩ : ByteArray) ++ ds) = stK x.div := by rw [L_append, hds]; rfl
  have d1 : -9223372036854775808 ≤ x.div := by omega
  have d2 : x.div ≤ 9223372036854775807 := by omega
  have HD := Lib.hid (seenE_next (n := stE x) h hm)
  have NM0 := fun W (hW : Chk W Bc Bm n (.slice a1 nd c1) v2 v3 v4 ks) => named_new ((⟨#[115, 116, 111, 112, 32]⟩ : ByteArray) ++ ds) x.name Bc Bm n _ v2 v3 v4 ks W hW hn hkz hz h (by rw [hkl]; exact hm)
  rw [hkl] at NM0
  have HX := Lib.hid (show stE x = 2 by unfold stE; rw [if_neg (fun h => by omega)])
  have F1 := Lib.hid (fun W T => footage_yes x.num x.den W T hf)
  have b1 : ((x.parts.length : Int) == 0) = true := by rw [beq_iff_eq]; omega
  clear hf hp
  have HDS := Lib.hid hds
  clear hd h hm hds hkl
  go_enter Tryd.func24, Tryd.ntmps24
  go_wp2_with (go_at_call 47; with_reducible refine (CN.out _).mono ?_; rintro e w' ⟨rfl, rfl⟩)
  go_quiet ((go_at_call 35; exact Calls.quiet_of_same (W1 _)))
  have hB := below_drewN hb0 nq
  have kd := k0.drewN nq
  have kc : Chk ((w.alloc (.cells #[.string x.name, .int .i64 x.div, .int .i64 x.num, .int .i64 x.den, .slice pa x.parts.length pc] 61)).drewN nq) Bc Bm n (.slice a1 nd c1) v2 v3 v4 ks := hc0.below (below_drewN (Below.refl _ _) nq)
  have t1 := t.below hB
  generalize (w.alloc (.cells #[.string x.name, .int .i64 x.div, .int .i64 x.num, .int .i64 x.den, .slice pa x.parts.length pc] 61)).drewN nq = w1 at *
  clear z0 z1 z2 z3 z4 hc0 k0 hb0 t0
  have e0 := kd.cell 0
  have e1 := kd.cell 1
  have hdr : Below w1.heap.size w1 w1.drew := (Below.refl _ _).drew
  have hrf : Below w1.heap.size w1 w1 := Below.refl _ _
  have DG := Lib.hid (fun W (hW : Below w1.heap.size w1 W) => (digits_as x.div ds HDS.out W d1 d2 (t1.below hW)).mono fun e w' (h : _ ∧ Below W.heap.size W w') => (⟨h.1, below_step hW h.2⟩ : _ ∧ Below w1.heap.size w1 w'))
  have NM := Lib.hid (fun W (hW : Below w1.heap.size w1 W) => (NM0 W (kc.below hW)).mono fun e w' (h : _ ∧ Chk w' Bc Bm (n + 1) (.slice a1 nd c1) v2 v3 v4 ((stK x.div, L x.name) :: ks) ∧ W.grownBy w' (some Bm)) => (⟨h.1, h.2.1, only_trans (only_of Bm hW) h.2.2⟩ : _ ∧ Chk w' Bc Bm (n + 1) (.slice a1 nd c1) v2 v3 v4 ((stK x.div, L x.name) :: ks) ∧ w1.grownBy w' (some Bm)))
  clear NM0
  go_wp2_with fail
  go_region_with (first | (go_at_call 48; refine (DG.out _ (by first | assumption | exact hdr)).mono ?_; rintro e w2 ⟨rfl, hb2⟩; have f0 := (kd.below hb2).cell 0) | (go_at_call 45; refine (NM.out _ (by assumption)).mono ?_; rintro e w3 ⟨rfl, hc3, hg3⟩; have hgw := only_trans (only_of Bm hB) hg3; have k3 := kd.kept hg3 (fun e => by have := Option.some.inj e; omega); have y0 := k3.cell 0; have y1 := k3.cell 1; have y2 := k3.cell 2; have y3 := k3.cell 3; have y4 := k3.cell 4; have t3 := t1.grown hr hg3))
  all_goals go_wp2_with (go_at_call 46; with_reducible refine (F1.out _ (by assumption)).mono ?_; rintro e w4 ⟨rfl, hb4⟩; have hgw2 := only_trail hgw hb4; have k4 := k3.below hb4; have hc4 := hc3.below hb4; have u0 := k4.cell 0; have u1 := k4.cell 1; have u2 := k4.cell 2; have u3 := k4.cell 3; have u4 := k4.cell 4)
  all_goals go_ret
  all_goals exact ckEnds_bad (HE.out.trans (HD.out.trans HX.out)) (by decide) hgw2
set_option maxRecDepth 100000 in
set_option maxHeartbeats 6400000 in
theorem stop_many (x : St) (pa : Option Addr) (pc : Nat) (nd : Nat) (Bc Bm n : Nat) (a1 : Option Addr) (c1 : Nat) (v2 v3 v4 : Value) (ks : List (List UInt8 × List UInt8)) (w : World) (t : Tabs w) (hc : Chk w Bc Bm n (.slice a1 nd c1) v2 v3 v4 ks) (hz : x.name.size ≤ 1000) (hs : nd ≤ 1000)
    (h : nameB (L x.name) = true) (hd : 0 ≤ x.div ∧ x.div < nd) (hm : (stK x.div, L x.name) ∉ ks) (hn : n ≤ 100000) (hr : TabLt Bm) (hpl : x.parts.length ≤ 1000) (hf : FeetOk x.num x.den) (hp : 12 < x.parts.length) :
    Calls Tryd.prog 24 #[.pointer (some ⟨Bc, 0, none⟩), .agg #[.string x.name, .int .i64 x.div, .int .i64 x.num, .int .i64 x.den, .slice pa x.parts.length pc]] w (CkEnds Bc Bm n (.slice a1 nd c1) v2 v3 v4 (stK x.div) (L x.name) ks (stE0 x nd ks) w) := by
  have hb0 : Below w.heap.size w (w.alloc (.cells #[.string x.name, .int .i64 x.div, .int .i64 x.num, .int .i64 x.den, .slice pa x.parts.length pc] 61)) := (Below.refl _ _).alloc (Nat.le_refl _) _
  have hc0 := hc.below hb0
  have k0 : Blk (w.alloc (.cells #[.string x.name, .int .i64 x.div, .int .i64 x.num, .int .i64 x.den, .slice pa x.parts.length pc] 61)) w.heap.size 61 #[.string x.name, .int .i64 x.div, .int .i64 x.num, .int .i64 x.den, .slice pa x.parts.length pc] := Blk.new _ _ _
  obtain ⟨z0, z1, z2, z3, z4⟩ := hc0.cells
  have hcast : ((nd : Nat) : Int) ≤ 1000 := by omega
  have CN := Lib.hid (fun W => name_is x.name true h W (by unfold maxLen; omega))
  have W1 := fun W => within_yes' x.div 0 ((nd : Int) - 1) W (by omega) (by omega)
  obtain ⟨ds, hds⟩ := mkL (Lib.itoa x.div)
  have hdz : ds.size ≤ 21 := by rw [size_of_L hds]; exact itoa_le x.div (by omega) (by omega)
  have HE := Lib.hid (stE0_next (ks := ks) h hd)
  have hmlt := hc.seen.lt
  have t0 := t.below hb0
  have p1 : ¬ 9223372036854775807 < 5 + ds.size := by omega
  have hkz : ((⟨#[115, 116, 111, 112, 32]⟩ : ByteArray) ++ ds).size ≤ 1000 := by simp only [ByteArray.size_append]; have : (⟨#[115, 116, 111, 112, 32]⟩ : ByteArray).size = 5 := rfl; omega
  have hkl : L ((⟨#[115, 116, 111, 112, 32]⟩ : ByteArray) ++ ds) = stK x.div := by rw [L_append, hds]; rfl
  have d1 : -9223372036854775808 ≤ x.div := by omega
  have d2 : x.div ≤ 9223372036854775807 := by omega
  have HD := Lib.hid (seenE_next (n := stE x) h hm)
  have NM0 := fun W (hW : Chk W Bc Bm n (.slice a1 nd c1) v2 v3 v4 ks) => named_new ((⟨#[115, 116, 111, 112, 32]⟩ : ByteArray) ++ ds) x.name Bc Bm n _ v2 v3 v4 ks W hW hn hkz hz h (by rw [hkl]; exact hm)
  rw [hkl] at NM0
  have HX := Lib.hid (show stE x = 3 by unfold stE; rw [if_pos ⟨hf, by omega⟩, if_neg (by omega)])
  have F1 := Lib.hid (fun W T => footage_yes x.num x.den W T hf)
  have b1 : ((x.parts.length : Int) == 0) = false := by rw [beq_eq_false_iff_ne]; omega
  have b2 : (12 : Int) < (x.parts.length : Int) := by omega
  clear hf
  have HDS := Lib.hid hds
  clear hd h hm hds hkl
  go_enter Tryd.func24, Tryd.ntmps24
  go_wp2_with (go_at_call 47; with_reducible refine (CN.out _).mono ?_; rintro e w' ⟨rfl, rfl⟩)
  go_quiet ((go_at_call 35; exact Calls.quiet_of_same (W1 _)))
  have hB := below_drewN hb0 nq
  have kd := k0.drewN nq
  have kc : Chk ((w.alloc (.cells #[.string x.name, .int .i64 x.div, .int .i64 x.num, .int .i64 x.den, .slice pa x.parts.length pc] 61)).drewN nq) Bc Bm n (.slice a1 nd c1) v2 v3 v4 ks := hc0.below (below_drewN (Below.refl _ _) nq)
  have t1 := t.below hB
  generalize (w.alloc (.cells #[.string x.name, .int .i64 x.div, .int .i64 x.num, .int .i64 x.den, .slice pa x.parts.length pc] 61)).drewN nq = w1 at *
  clear z0 z1 z2 z3 z4 hc0 k0 hb0 t0
  have e0 := kd.cell 0
  have e1 := kd.cell 1
  have hdr : Below w1.heap.size w1 w1.drew := (Below.refl _ _).drew
  have hrf : Below w1.heap.size w1 w1 := Below.refl _ _
  have DG := Lib.hid (fun W (hW : Below w1.heap.size w1 W) => (digits_as x.div ds HDS.out W d1 d2 (t1.below hW)).mono fun e w' (h : _ ∧ Below W.heap.size W w') => (⟨h.1, below_step hW h.2⟩ : _ ∧ Below w1.heap.size w1 w'))
  have NM := Lib.hid (fun W (hW : Below w1.heap.size w1 W) => (NM0 W (kc.below hW)).mono fun e w' (h : _ ∧ Chk w' Bc Bm (n + 1) (.slice a1 nd c1) v2 v3 v4 ((stK x.div, L x.name) :: ks) ∧ W.grownBy w' (some Bm)) => (⟨h.1, h.2.1, only_trans (only_of Bm hW) h.2.2⟩ : _ ∧ Chk w' Bc Bm (n + 1) (.slice a1 nd c1) v2 v3 v4 ((stK x.div, L x.name) :: ks) ∧ w1.grownBy w' (some Bm)))
  clear NM0
  go_wp2_with fail
  go_region_with (first | (go_at_call 48; refine (DG.out _ (by first | assumption | exact hdr)).mono ?_; rintro e w2 ⟨rfl, hb2⟩; have f0 := (kd.below hb2).cell 0) | (go_at_call 45; refine (NM.out _ (by assumption)).mono ?_; rintro e w3 ⟨rfl, hc3, hg3⟩; have hgw := only_trans (only_of Bm hB) hg3; have k3 := kd.kept hg3 (fun e => by have := Option.some.inj e; omega); have y0 := k3.cell 0; have y1 := k3.cell 1; have y2 := k3.cell 2; have y3 := k3.cell 3; have y4 := k3.cell 4; have t3 := t1.grown hr hg3))
  all_goals go_wp2_with (go_at_call 46; with_reducible refine (F1.out _ (by assumption)).mono ?_; rintro e w4 ⟨rfl, hb4⟩; have hgw2 := only_trail hgw hb4; have k4 := k3.below hb4; have hc4 := hc3.below hb4; have u0 := k4.cell 0; have u1 := k4.cell 1; have u2 := k4.cell 2; have u3 := k4.cell 3; have u4 := k4.cell 4)
  all_goals go_ret
  all_goals exact ckEnds_bad (HE.out.trans (HD.out.trans HX.out)) (by decide) hgw2
set_option maxRecDepth 100000 in
set_option maxHeartbeats 6400000 in
theorem stop_good (x : St) (pa : Option Addr) (pc : Nat) (nd : Nat) (Bc Bm n : Nat) (a1 : Option Addr) (c1 : Nat) (v2 v3 v4 : Value) (ks : List (List UInt8 × List UInt8)) (w : World) (t : Tabs w) (hc : Chk w Bc Bm n (.slice a1 nd c1) v2 v3 v4 ks) (hz : x.name.size ≤ 1000) (hs : nd ≤ 1000)
    (h : nameB (L x.name) = true) (hd : 0 ≤ x.div ∧ x.div < nd) (hm : (stK x.div, L x.name) ∉ ks) (hn : n ≤ 100000) (hr : TabLt Bm) (hpl : x.parts.length ≤ 1000) (hf : FeetOk x.num x.den) (hp : 0 < x.parts.length) (hp2 : x.parts.length ≤ 12) :
    Calls Tryd.prog 24 #[.pointer (some ⟨Bc, 0, none⟩), .agg #[.string x.name, .int .i64 x.div, .int .i64 x.num, .int .i64 x.den, .slice pa x.parts.length pc]] w (CkEnds Bc Bm n (.slice a1 nd c1) v2 v3 v4 (stK x.div) (L x.name) ks (stE0 x nd ks) w) := by
  have hb0 : Below w.heap.size w (w.alloc (.cells #[.string x.name, .int .i64 x.div, .int .i64 x.num, .int .i64 x.den, .slice pa x.parts.length pc] 61)) := (Below.refl _ _).alloc (Nat.le_refl _) _
  have hc0 := hc.below hb0
  have k0 : Blk (w.alloc (.cells #[.string x.name, .int .i64 x.div, .int .i64 x.num, .int .i64 x.den, .slice pa x.parts.length pc] 61)) w.heap.size 61 #[.string x.name, .int .i64 x.div, .int .i64 x.num, .int .i64 x.den, .slice pa x.parts.length pc] := Blk.new _ _ _
  obtain ⟨z0, z1, z2, z3, z4⟩ := hc0.cells
  have hcast : ((nd : Nat) : Int) ≤ 1000 := by omega
  have CN := Lib.hid (fun W => name_is x.name true h W (by unfold maxLen; omega))
  have W1 := fun W => within_yes' x.div 0 ((nd : Int) - 1) W (by omega) (by omega)
  obtain ⟨ds, hds⟩ := mkL (Lib.itoa x.div)
  have hdz : ds.size ≤ 21 := by rw [size_of_L hds]; exact itoa_le x.div (by omega) (by omega)
  have HE := Lib.hid (stE0_next (ks := ks) h hd)
  have hmlt := hc.seen.lt
  have t0 := t.below hb0
  have p1 : ¬ 9223372036854775807 < 5 + ds.size := by omega
  have hkz : ((⟨#[115, 116, 111, 112, 32]⟩ : ByteArray) ++ ds).size ≤ 1000 := by simp only [ByteArray.size_append]; have : (⟨#[115, 116, 111, 112, 32]⟩ : ByteArray).size = 5 := rfl; omega
  have hkl : L ((⟨#[115, 116, 111, 112, 32]⟩ : ByteArray) ++ ds) = stK x.div := by rw [L_append, hds]; rfl
  have d1 : -9223372036854775808 ≤ x.div := by omega
  have d2 : x.div ≤ 9223372036854775807 := by omega
  have HD := Lib.hid (seenE_next (n := stE x) h hm)
  have NM0 := fun W (hW : Chk W Bc Bm n (.slice a1 nd c1) v2 v3 v4 ks) => named_new ((⟨#[115, 116, 111, 112, 32]⟩ : ByteArray) ++ ds) x.name Bc Bm n _ v2 v3 v4 ks W hW hn hkz hz h (by rw [hkl]; exact hm)
  rw [hkl] at NM0
  have HX := Lib.hid (show stE x = 0 by unfold stE; rw [if_pos ⟨hf, by omega⟩, if_pos hp2])
  have F1 := Lib.hid (fun W T => footage_yes x.num x.den W T hf)
  have b1 : ((x.parts.length : Int) == 0) = false := by rw [beq_eq_false_iff_ne]; omega
  have b2 : (x.parts.length : Int) ≤ 12 := by omega
  clear hf
  have HDS := Lib.hid hds
  clear hd h hm hds hkl
  go_enter Tryd.func24, Tryd.ntmps24
  go_wp2_with (go_at_call 47; with_reducible refine (CN.out _).mono ?_; rintro e w' ⟨rfl, rfl⟩)
  go_quiet ((go_at_call 35; exact Calls.quiet_of_same (W1 _)))
  have hB := below_drewN hb0 nq
  have kd := k0.drewN nq
  have kc : Chk ((w.alloc (.cells #[.string x.name, .int .i64 x.div, .int .i64 x.num, .int .i64 x.den, .slice pa x.parts.length pc] 61)).drewN nq) Bc Bm n (.slice a1 nd c1) v2 v3 v4 ks := hc0.below (below_drewN (Below.refl _ _) nq)
  have t1 := t.below hB
  generalize (w.alloc (.cells #[.string x.name, .int .i64 x.div, .int .i64 x.num, .int .i64 x.den, .slice pa x.parts.length pc] 61)).drewN nq = w1 at *
  clear z0 z1 z2 z3 z4 hc0 k0 hb0 t0
  have e0 := kd.cell 0
  have e1 := kd.cell 1
  have hdr : Below w1.heap.size w1 w1.drew := (Below.refl _ _).drew
  have hrf : Below w1.heap.size w1 w1 := Below.refl _ _
  have DG := Lib.hid (fun W (hW : Below w1.heap.size w1 W) => (digits_as x.div ds HDS.out W d1 d2 (t1.below hW)).mono fun e w' (h : _ ∧ Below W.heap.size W w') => (⟨h.1, below_step hW h.2⟩ : _ ∧ Below w1.heap.size w1 w'))
  have NM := Lib.hid (fun W (hW : Below w1.heap.size w1 W) => (NM0 W (kc.below hW)).mono fun e w' (h : _ ∧ Chk w' Bc Bm (n + 1) (.slice a1 nd c1) v2 v3 v4 ((stK x.div, L x.name) :: ks) ∧ W.grownBy w' (some Bm)) => (⟨h.1, h.2.1, only_trans (only_of Bm hW) h.2.2⟩ : _ ∧ Chk w' Bc Bm (n + 1) (.slice a1 nd c1) v2 v3 v4 ((stK x.div, L x.name) :: ks) ∧ w1.grownBy w' (some Bm)))
  clear NM0
  go_wp2_with fail
  go_region_with (first | (go_at_call 48; refine (DG.out _ (by first | assumption | exact hdr)).mono ?_; rintro e w2 ⟨rfl, hb2⟩; have f0 := (kd.below hb2).cell 0) | (go_at_call 45; refine (NM.out _ (by assumption)).mono ?_; rintro e w3 ⟨rfl, hc3, hg3⟩; have hgw := only_trans (only_of Bm hB) hg3; have k3 := kd.kept hg3 (fun e => by have := Option.some.inj e; omega); have y0 := k3.cell 0; have y1 := k3.cell 1; have y2 := k3.cell 2; have y3 := k3.cell 3; have y4 := k3.cell 4; have t3 := t1.grown hr hg3))
  all_goals go_wp2_with (go_at_call 46; with_reducible refine (F1.out _ (by assumption)).mono ?_; rintro e w4 ⟨rfl, hb4⟩; have hgw2 := only_trail hgw hb4; have k4 := k3.below hb4; have hc4 := hc3.below hb4; have u0 := k4.cell 0; have u1 := k4.cell 1; have u2 := k4.cell 2; have u3 := k4.cell 3; have u4 := k4.cell 4)
  all_goals go_ret
  all_goals exact ckEnds_good (HE.out.trans (HD.out.trans HX.out)) hgw2 hc4
theorem stop_any (x : St) (pa : Option Addr) (pc : Nat) (nd : Nat) (Bc Bm n : Nat) (a1 : Option Addr) (c1 : Nat) (v2 v3 v4 : Value) (ks : List (List UInt8 × List UInt8)) (w : World) (t : Tabs w) (hr : TabLt Bm) (hc : Chk w Bc Bm n (.slice a1 nd c1) v2 v3 v4 ks) (hn : n ≤ 100000) (hz : x.name.size ≤ 1000) (hs : nd ≤ 1000) (hpl : x.parts.length ≤ 1000) :
    Calls Tryd.prog 24 #[.pointer (some ⟨Bc, 0, none⟩), .agg #[.string x.name, .int .i64 x.div, .int .i64 x.num, .int .i64 x.den, .slice pa x.parts.length pc]] w (CkEnds Bc Bm n (.slice a1 nd c1) v2 v3 v4 (stK x.div) (L x.name) ks (stE0 x nd ks) w) := by
  cases h : nameB (L x.name) with
  | false => exact stop_early x _ nd Bc Bm n a1 c1 v2 v3 v4 ks w hc hz hs (.inl h)
  | true =>
    by_cases hd : 0 ≤ x.div ∧ x.div < nd
    · by_cases hm : (stK x.div, L x.name) ∈ ks
      · exact stop_twice x _ nd Bc Bm n a1 c1 v2 v3 v4 ks w t hc hz hs h hd hm
      · by_cases hf : FeetOk x.num x.den
        · by_cases hp : x.parts.length = 0
          · exact stop_noparts x pa pc nd Bc Bm n a1 c1 v2 v3 v4 ks w t hc hz hs h hd hm hn hr hf hp
          · by_cases hp2 : 12 < x.parts.length
            · exact stop_many x pa pc nd Bc Bm n a1 c1 v2 v3 v4 ks w t hc hz hs h hd hm hn hr hpl hf hp2
            · exact stop_good x pa pc nd Bc Bm n a1 c1 v2 v3 v4 ks w t hc hz hs h hd hm hn hr hpl hf (by omega) (by omega)
        · exact stop_nofeet x pa pc nd Bc Bm n a1 c1 v2 v3 v4 ks w t hc hz hs h hd hm hn hr hf
    · exact stop_early x _ nd Bc Bm n a1 c1 v2 v3 v4 ks w hc hz hs (.inr ⟨h, hd⟩)
end Go.Proofs.YtkddeliifadcoaaDoor
