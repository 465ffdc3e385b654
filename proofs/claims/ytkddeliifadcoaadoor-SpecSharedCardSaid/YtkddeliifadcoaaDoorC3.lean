/-
  CONTRACTS: the checker's coupler.
-/
import Derived.Test.YtkddeliifadcoaaDoorC2
namespace Go.Proofs.YtkddeliifadcoaaDoor
open Go.RowKit
set_option maxRecDepth 100000 in
set_option maxHeartbeats 3200000 in
theorem coupler_any (c : Cp) (S : Sp) (Bc Bm n : Nat) (a1 : Option Addr) (c1 : Nat) (v2 v3 v4 : Value) (ks : List (List UInt8 × List UInt8)) (w : World) (hc : Chk w Bc Bm n (.slice a1 S.ds.length c1) v2 v3 v4 ks) (hn : n ≤ 100000) (hz : c.name.size ≤ 1000) (hs : S.ds.length ≤ 1000) :
    Calls Tryd.prog 29 #[.pointer (some ⟨Bc, 0, none⟩), .agg #[.string c.name, .int .i64 c.frm, .int .i64 c.to, .int .i64 c.shift, .int .i64 c.only, .bool c.thr]] w (CkEnds Bc Bm n (.slice a1 S.ds.length c1) v2 v3 v4 cpK (L c.name) ks (seenE cpK c.name ks (cpE S c)) w) := by
  have hb0 : Below w.heap.size w (w.alloc (.cells #[.string c.name, .int .i64 c.frm, .int .i64 c.to, .int .i64 c.shift, .int .i64 c.only, .bool c.thr] 63)) := (Below.refl _ _).alloc (Nat.le_refl _) _
  have hc0 := hc.below hb0
  have k0 : Blk (w.alloc (.cells #[.string c.name, .int .i64 c.frm, .int .i64 c.to, .int .i64 c.shift, .int .i64 c.only, .bool c.thr] 63)) w.heap.size 63 #[.string c.name, .int .i64 c.frm, .int .i64 c.to, .int .i64 c.shift, .int .i64 c.only, .bool c.thr] := Blk.new _ _ _
  have hg0 : w.grownBy (w.alloc (.cells #[.string c.name, .int .i64 c.frm, .int .i64 c.to, .int .i64 c.shift, .int .i64 c.only, .bool c.thr] 63)) (some Bm) := only_of Bm hb0
  have hkb : (⟨#[99, 111, 117, 112, 108, 101, 114]⟩ : ByteArray).size ≤ 1000 := by decide
  have hmlt := hc.seen.lt
  cases hnm : nameB (L c.name) with
  | false =>
    have HE := Lib.hid (seenE_form (k := cpK) (ks := ks) (n := cpE S c) hnm)
    have CN := Lib.hid (fun W => named_form ⟨#[99, 111, 117, 112, 108, 101, 114]⟩ c.name (.pointer (some ⟨Bc, 0, none⟩)) W hz hnm)
    clear hnm
    go_enter Tryd.func29, Tryd.ntmps29
    go_wp2_with (go_at_call 45; with_reducible refine (CN.out _).mono ?_; rintro e w' ⟨rfl, rfl⟩)
    go_ret
    exact ckEnds_bad HE.out (by decide) hg0
  | true =>
    by_cases hm : (cpK, L c.name) ∈ ks
    · have HE := Lib.hid (seenE_twice (n := cpE S c) hnm hm)
      have CN := Lib.hid (named_twice ⟨#[99, 111, 117, 112, 108, 101, 114]⟩ c.name Bc Bm n (.slice a1 S.ds.length c1) v2 v3 v4 ks _ hc0 hkb hz hnm hm)
      clear hnm hm
      go_enter Tryd.func29, Tryd.ntmps29
      go_wp2_with (go_at_call 45; with_reducible refine (CN.out).mono ?_; rintro e w' ⟨rfl, rfl⟩)
      go_ret
      exact ckEnds_bad HE.out (by decide) hg0
    · have HE := Lib.hid (seenE_next (n := cpE S c) hnm hm)
      have CN := Lib.hid (named_new ⟨#[99, 111, 117, 112, 108, 101, 114]⟩ c.name Bc Bm n (.slice a1 S.ds.length c1) v2 v3 v4 ks _ hc0 hn hkb hz hnm hm)
      clear hnm hm
      have hcast : ((S.ds.length : Nat) : Int) ≤ 1000 := by omega
      by_cases h1 : 0 ≤ c.frm ∧ c.frm ≤ (S.ds.length : Int) - 1
      · have W1 := Lib.hid (fun W => within_yes c.frm 0 ((S.ds.length : Int) - 1) W h1.1 h1.2)
        by_cases h2 : 0 ≤ c.to ∧ c.to ≤ (S.ds.length : Int) - 1
        · have W2 := Lib.hid (fun W => within_yes c.to 0 ((S.ds.length : Int) - 1) W h2.1 h2.2)
          have HP := Lib.hid (show cpE S c = if (c.shift = -12 ∨ c.shift = 12 ∨ c.shift = 0 ∧ c.frm ≠ c.to) ∧ 0 ≤ c.only ∧ c.only ≤ 2 ∧ ¬ (c.thr = true ∧ c.only ≠ 0) then 0 else 2 by unfold cpE; rw [if_pos (by omega)])
          clear h1 h2
          by_cases s1 : c.shift = -12
          · have HS := Lib.hid s1
            have b1 : (c.shift == -12) = true := beq_iff_eq.2 s1
            clear s1
            by_cases h3 : 0 ≤ c.only ∧ c.only ≤ 2
            · have W3 := Lib.hid (fun W => within_yes c.only 0 2 W h3.1 h3.2)
              have hthr : c.thr = false ∨ c.thr = true := by cases c.thr <;> simp
              rcases hthr with ht | ht
              · skip
                have HD := Lib.hid (show cpE S c = 0 by rw [HP.out, ht, if_pos ⟨by have := HS.out; omega, h3.1, h3.2, by simp⟩])
                have HT := Lib.hid ht
                clear h3 ht
                go_enter Tryd.func29, Tryd.ntmps29
                go_wp2_with (go_at_call 45; with_reducible refine (CN.out).mono ?_; rintro e w1 ⟨rfl, hc1, hg1⟩; have hgw := only_trans hg0 hg1; have k1 := k0.kept hg1 (fun e => by have := Option.some.inj e; omega); have x0 := k1.cell 0; have x1 := k1.cell 1; have x2 := k1.cell 2; have x3 := k1.cell 3; have x4 := k1.cell 4; have x5 : w1.cell? ⟨w.heap.size, 5, none⟩ = some (.bool false) := (k1.cell 5).trans (by simp [HT.out]); obtain ⟨z0, _, _, _, _⟩ := hc1.cells)
                go_wp2_with (first | (go_at_call 35; with_reducible refine (W1.out _).mono ?_; rintro e w' ⟨rfl, rfl⟩) | (go_at_call 35; with_reducible refine (W2.out _).mono ?_; rintro e w' ⟨rfl, rfl⟩) | (go_at_call 35; with_reducible refine (W3.out _).mono ?_; rintro e w' ⟨rfl, rfl⟩))
                go_ret
                exact ckEnds_good (HE.out.trans HD.out) hgw hc1
              · skip
                by_cases h4 : c.only = 0
                · have HD := Lib.hid (show cpE S c = 0 by rw [HP.out, ht, if_pos ⟨by have := HS.out; omega, h3.1, h3.2, by simp [h4]⟩])
                  have HT := Lib.hid ht
                  have b4 : (c.only == 0) = true := beq_iff_eq.2 h4
                  have b5 : (c.only != 0) = false := by simp [h4]
                  clear h3 h4 ht
                  go_enter Tryd.func29, Tryd.ntmps29
                  go_wp2_with (go_at_call 45; with_reducible refine (CN.out).mono ?_; rintro e w1 ⟨rfl, hc1, hg1⟩; have hgw := only_trans hg0 hg1; have k1 := k0.kept hg1 (fun e => by have := Option.some.inj e; omega); have x0 := k1.cell 0; have x1 := k1.cell 1; have x2 := k1.cell 2; have x3 := k1.cell 3; have x4 := k1.cell 4; have x5 : w1.cell? ⟨w.heap.size, 5, none⟩ = some (.bool true) := (k1.cell 5).trans (by simp [HT.out]); obtain ⟨z0, _, _, _, _⟩ := hc1.cells)
                  go_wp2_with (first | (go_at_call 35; with_reducible refine (W1.out _).mono ?_; rintro e w' ⟨rfl, rfl⟩) | (go_at_call 35; with_reducible refine (W2.out _).mono ?_; rintro e w' ⟨rfl, rfl⟩) | (go_at_call 35; with_reducible refine (W3.out _).mono ?_; rintro e w' ⟨rfl, rfl⟩))
                  go_ret
                  exact ckEnds_good (HE.out.trans HD.out) hgw hc1
                · have HD := Lib.hid (show cpE S c = 2 by rw [HP.out, ht, if_neg (by simp [h4])])
                  have HT := Lib.hid ht
                  have b4 : (c.only == 0) = false := beq_eq_false_iff_ne.2 h4
                  have b5 : (c.only != 0) = true := by simp [h4]
                  clear h3 h4 ht
                  go_enter Tryd.func29, Tryd.ntmps29
                  go_wp2_with (go_at_call 45; with_reducible refine (CN.out).mono ?_; rintro e w1 ⟨rfl, hc1, hg1⟩; have hgw := only_trans hg0 hg1; have k1 := k0.kept hg1 (fun e => by have := Option.some.inj e; omega); have x0 := k1.cell 0; have x1 := k1.cell 1; have x2 := k1.cell 2; have x3 := k1.cell 3; have x4 := k1.cell 4; have x5 : w1.cell? ⟨w.heap.size, 5, none⟩ = some (.bool true) := (k1.cell 5).trans (by simp [HT.out]); obtain ⟨z0, _, _, _, _⟩ := hc1.cells)
                  go_wp2_with (first | (go_at_call 35; with_reducible refine (W1.out _).mono ?_; rintro e w' ⟨rfl, rfl⟩) | (go_at_call 35; with_reducible refine (W2.out _).mono ?_; rintro e w' ⟨rfl, rfl⟩) | (go_at_call 35; with_reducible refine (W3.out _).mono ?_; rintro e w' ⟨rfl, rfl⟩))
                  go_ret
                  exact ckEnds_bad (HE.out.trans HD.out) (by decide) hgw
            · have W3 := Lib.hid (fun W => within_no c.only 0 2 W h3)
              have HD := Lib.hid (show cpE S c = 2 by rw [HP.out, if_neg (fun h => h3 ⟨h.2.1, h.2.2.1⟩)])
              clear h3
              go_enter Tryd.func29, Tryd.ntmps29
              go_wp2_with (go_at_call 45; with_reducible refine (CN.out).mono ?_; rintro e w1 ⟨rfl, hc1, hg1⟩; have hgw := only_trans hg0 hg1; have k1 := k0.kept hg1 (fun e => by have := Option.some.inj e; omega); have x0 := k1.cell 0; have x1 := k1.cell 1; have x2 := k1.cell 2; have x3 := k1.cell 3; have x4 := k1.cell 4; have x5 := k1.cell 5; obtain ⟨z0, _, _, _, _⟩ := hc1.cells)
              go_wp2_with (first | (go_at_call 35; with_reducible refine (W1.out _).mono ?_; rintro e w' ⟨rfl, rfl⟩) | (go_at_call 35; with_reducible refine (W2.out _).mono ?_; rintro e w' ⟨rfl, rfl⟩) | (go_at_call 35; with_reducible refine (W3.out _).mono ?_; rintro e w' ⟨rfl, rfl⟩))
              go_ret
              exact ckEnds_bad (HE.out.trans HD.out) (by decide) hgw
          · have b1 : (c.shift == -12) = false := beq_eq_false_iff_ne.2 s1
            by_cases s2 : c.shift = 12
            · have HS := Lib.hid s2
              have b2 : (c.shift == 12) = true := beq_iff_eq.2 s2
              clear s1 s2
              by_cases h3 : 0 ≤ c.only ∧ c.only ≤ 2
              · have W3 := Lib.hid (fun W => within_yes c.only 0 2 W h3.1 h3.2)
                have hthr : c.thr = false ∨ c.thr = true := by cases c.thr <;> simp
                rcases hthr with ht | ht
                · skip
                  have HD := Lib.hid (show cpE S c = 0 by rw [HP.out, ht, if_pos ⟨by have := HS.out; omega, h3.1, h3.2, by simp⟩])
                  have HT := Lib.hid ht
                  clear h3 ht
                  go_enter Tryd.func29, Tryd.ntmps29
                  go_wp2_with (go_at_call 45; with_reducible refine (CN.out).mono ?_; rintro e w1 ⟨rfl, hc1, hg1⟩; have hgw := only_trans hg0 hg1; have k1 := k0.kept hg1 (fun e => by have := Option.some.inj e; omega); have x0 := k1.cell 0; have x1 := k1.cell 1; have x2 := k1.cell 2; have x3 := k1.cell 3; have x4 := k1.cell 4; have x5 : w1.cell? ⟨w.heap.size, 5, none⟩ = some (.bool false) := (k1.cell 5).trans (by simp [HT.out]); obtain ⟨z0, _, _, _, _⟩ := hc1.cells)
                  go_wp2_with (first | (go_at_call 35; with_reducible refine (W1.out _).mono ?_; rintro e w' ⟨rfl, rfl⟩) | (go_at_call 35; with_reducible refine (W2.out _).mono ?_; rintro e w' ⟨rfl, rfl⟩) | (go_at_call 35; with_reducible refine (W3.out _).mono ?_; rintro e w' ⟨rfl, rfl⟩))
                  go_ret
                  exact ckEnds_good (HE.out.trans HD.out) hgw hc1
                · skip
                  by_cases h4 : c.only = 0
                  · have HD := Lib.hid (show cpE S c = 0 by rw [HP.out, ht, if_pos ⟨by have := HS.out; omega, h3.1, h3.2, by simp [h4]⟩])
                    have HT := Lib.hid ht
                    have b4 : (c.only == 0) = true := beq_iff_eq.2 h4
                    have b5 : (c.only != 0) = false := by simp [h4]
                    clear h3 h4 ht
                    go_enter Tryd.func29, Tryd.ntmps29
                    go_wp2_with (go_at_call 45; with_reducible refine (CN.out).mono ?_; rintro e w1 ⟨rfl, hc1, hg1⟩; have hgw := only_trans hg0 hg1; have k1 := k0.kept hg1 (fun e => by have := Option.some.inj e; omega); have x0 := k1.cell 0; have x1 := k1.cell 1; have x2 := k1.cell 2; have x3 := k1.cell 3; have x4 := k1.cell 4; have x5 : w1.cell? ⟨w.heap.size, 5, none⟩ = some (.bool true) := (k1.cell 5).trans (by simp [HT.out]); obtain ⟨z0, _, _, _, _⟩ := hc1.cells)
                    go_wp2_with (first | (go_at_call 35; with_reducible refine (W1.out _).mono ?_; rintro e w' ⟨rfl, rfl⟩) | (go_at_call 35; with_reducible refine (W2.out _).mono ?_; rintro e w' ⟨rfl, rfl⟩) | (go_at_call 35; with_reducible refine (W3.out _).mono ?_; rintro e w' ⟨rfl, rfl⟩))
                    go_ret
                    exact ckEnds_good (HE.out.trans HD.out) hgw hc1
                  · have HD := Lib.hid (show cpE S c = 2 by rw [HP.out, ht, if_neg (by simp [h4])])
                    have HT := Lib.hid ht
                    have b4 : (c.only == 0) = false := beq_eq_false_iff_ne.2 h4
                    have b5 : (c.only != 0) = true := by simp [h4]
                    clear h3 h4 ht
                    go_enter Tryd.func29, Tryd.ntmps29
                    go_wp2_with (go_at_call 45; with_reducible refine (CN.out).mono ?_; rintro e w1 ⟨rfl, hc1, hg1⟩; have hgw := only_trans hg0 hg1; have k1 := k0.kept hg1 (fun e => by have := Option.some.inj e; omega); have x0 := k1.cell 0; have x1 := k1.cell 1; have x2 := k1.cell 2; have x3 := k1.cell 3; have x4 := k1.cell 4; have x5 : w1.cell? ⟨w.heap.size, 5, none⟩ = some (.bool true) := (k1.cell 5).trans (by simp [HT.out]); obtain ⟨z0, _, _, _, _⟩ := hc1.cells)
                    go_wp2_with (first | (go_at_call 35; with_reducible refine (W1.out _).mono ?_; rintro e w' ⟨rfl, rfl⟩) | (go_at_call 35; with_reducible refine (W2.out _).mono ?_; rintro e w' ⟨rfl, rfl⟩) | (go_at_call 35; with_reducible refine (W3.out _).mono ?_; rintro e w' ⟨rfl, rfl⟩))
                    go_ret
                    exact ckEnds_bad (HE.out.trans HD.out) (by decide) hgw
              · have W3 := Lib.hid (fun W => within_no c.only 0 2 W h3)
                have HD := Lib.hid (show cpE S c = 2 by rw [HP.out, if_neg (fun h => h3 ⟨h.2.1, h.2.2.1⟩)])
                clear h3
                go_enter Tryd.func29, Tryd.ntmps29
                go_wp2_with (go_at_call 45; with_reducible refine (CN.out).mono ?_; rintro e w1 ⟨rfl, hc1, hg1⟩; have hgw := only_trans hg0 hg1; have k1 := k0.kept hg1 (fun e => by have := Option.some.inj e; omega); have x0 := k1.cell 0; have x1 := k1.cell 1; have x2 := k1.cell 2; have x3 := k1.cell 3; have x4 := k1.cell 4; have x5 := k1.cell 5; obtain ⟨z0, _, _, _, _⟩ := hc1.cells)
                go_wp2_with (first | (go_at_call 35; with_reducible refine (W1.out _).mono ?_; rintro e w' ⟨rfl, rfl⟩) | (go_at_call 35; with_reducible refine (W2.out _).mono ?_; rintro e w' ⟨rfl, rfl⟩) | (go_at_call 35; with_reducible refine (W3.out _).mono ?_; rintro e w' ⟨rfl, rfl⟩))
                go_ret
                exact ckEnds_bad (HE.out.trans HD.out) (by decide) hgw
            · have b2 : (c.shift == 12) = false := beq_eq_false_iff_ne.2 s2
              by_cases s3 : c.shift = 0
              · have b3 : (c.shift == 0) = true := beq_iff_eq.2 s3
                by_cases s4 : c.frm = c.to
                · have HS := Lib.hid (show c.shift = 0 ∧ c.frm = c.to from ⟨s3, s4⟩)
                  have b4 : (c.frm == c.to) = true := beq_iff_eq.2 s4
                  have b5 : (c.frm != c.to) = false := by simp [s4]
                  clear s1 s2 s3 s4
                  have HD := Lib.hid (show cpE S c = 2 by rw [HP.out, if_neg (by have := HS.out; omega)])
                  go_enter Tryd.func29, Tryd.ntmps29
                  go_wp2_with (go_at_call 45; with_reducible refine (CN.out).mono ?_; rintro e w1 ⟨rfl, hc1, hg1⟩; have hgw := only_trans hg0 hg1; have k1 := k0.kept hg1 (fun e => by have := Option.some.inj e; omega); have x0 := k1.cell 0; have x1 := k1.cell 1; have x2 := k1.cell 2; have x3 := k1.cell 3; have x4 := k1.cell 4; have x5 := k1.cell 5; obtain ⟨z0, _, _, _, _⟩ := hc1.cells)
                  go_wp2_with (first | (go_at_call 35; with_reducible refine (W1.out _).mono ?_; rintro e w' ⟨rfl, rfl⟩) | (go_at_call 35; with_reducible refine (W2.out _).mono ?_; rintro e w' ⟨rfl, rfl⟩))
                  go_ret
                  exact ckEnds_bad (HE.out.trans HD.out) (by decide) hgw
                · have HS := Lib.hid (show c.shift = 0 ∧ c.frm ≠ c.to from ⟨s3, s4⟩)
                  have b4 : (c.frm == c.to) = false := beq_eq_false_iff_ne.2 s4
                  have b5 : (c.frm != c.to) = true := by simp [s4]
                  clear s1 s2 s3 s4
                  by_cases h3 : 0 ≤ c.only ∧ c.only ≤ 2
                  · have W3 := Lib.hid (fun W => within_yes c.only 0 2 W h3.1 h3.2)
                    have hthr : c.thr = false ∨ c.thr = true := by cases c.thr <;> simp
                    rcases hthr with ht | ht
                    · skip
                      have HD := Lib.hid (show cpE S c = 0 by rw [HP.out, ht, if_pos ⟨by have := HS.out; omega, h3.1, h3.2, by simp⟩])
                      have HT := Lib.hid ht
                      clear h3 ht
                      go_enter Tryd.func29, Tryd.ntmps29
                      go_wp2_with (go_at_call 45; with_reducible refine (CN.out).mono ?_; rintro e w1 ⟨rfl, hc1, hg1⟩; have hgw := only_trans hg0 hg1; have k1 := k0.kept hg1 (fun e => by have := Option.some.inj e; omega); have x0 := k1.cell 0; have x1 := k1.cell 1; have x2 := k1.cell 2; have x3 := k1.cell 3; have x4 := k1.cell 4; have x5 : w1.cell? ⟨w.heap.size, 5, none⟩ = some (.bool false) := (k1.cell 5).trans (by simp [HT.out]); obtain ⟨z0, _, _, _, _⟩ := hc1.cells)
                      go_wp2_with (first | (go_at_call 35; with_reducible refine (W1.out _).mono ?_; rintro e w' ⟨rfl, rfl⟩) | (go_at_call 35; with_reducible refine (W2.out _).mono ?_; rintro e w' ⟨rfl, rfl⟩) | (go_at_call 35; with_reducible refine (W3.out _).mono ?_; rintro e w' ⟨rfl, rfl⟩))
                      go_ret
                      exact ckEnds_good (HE.out.trans HD.out) hgw hc1
                    · skip
                      by_cases h4 : c.only = 0
                      · have HD := Lib.hid (show cpE S c = 0 by rw [HP.out, ht, if_pos ⟨by have := HS.out; omega, h3.1, h3.2, by simp [h4]⟩])
                        have HT := Lib.hid ht
                        have d4 : (c.only == 0) = true := beq_iff_eq.2 h4
                        have d5 : (c.only != 0) = false := by simp [h4]
                        clear h3 h4 ht
                        go_enter Tryd.func29, Tryd.ntmps29
                        go_wp2_with (go_at_call 45; with_reducible refine (CN.out).mono ?_; rintro e w1 ⟨rfl, hc1, hg1⟩; have hgw := only_trans hg0 hg1; have k1 := k0.kept hg1 (fun e => by have := Option.some.inj e; omega); have x0 := k1.cell 0; have x1 := k1.cell 1; have x2 := k1.cell 2; have x3 := k1.cell 3; have x4 := k1.cell 4; have x5 : w1.cell? ⟨w.heap.size, 5, none⟩ = some (.bool true) := (k1.cell 5).trans (by simp [HT.out]); obtain ⟨z0, _, _, _, _⟩ := hc1.cells)
                        go_wp2_with (first | (go_at_call 35; with_reducible refine (W1.out _).mono ?_; rintro e w' ⟨rfl, rfl⟩) | (go_at_call 35; with_reducible refine (W2.out _).mono ?_; rintro e w' ⟨rfl, rfl⟩) | (go_at_call 35; with_reducible refine (W3.out _).mono ?_; rintro e w' ⟨rfl, rfl⟩))
                        go_ret
                        exact ckEnds_good (HE.out.trans HD.out) hgw hc1
                      · have HD := Lib.hid (show cpE S c = 2 by rw [HP.out, ht, if_neg (by simp [h4])])
                        have HT := Lib.hid ht
                        have d4 : (c.only == 0) = false := beq_eq_false_iff_ne.2 h4
                        have d5 : (c.only != 0) = true := by simp [h4]
                        clear h3 h4 ht
                        go_enter Tryd.func29, Tryd.ntmps29
                        go_wp2_with (go_at_call 45; with_reducible refine (CN.out).mono ?_; rintro e w1 ⟨rfl, hc1, hg1⟩; have hgw := only_trans hg0 hg1; have k1 := k0.kept hg1 (fun e => by have := Option.some.inj e; omega); have x0 := k1.cell 0; have x1 := k1.cell 1; have x2 := k1.cell 2; have x3 := k1.cell 3; have x4 := k1.cell 4; have x5 : w1.cell? ⟨w.heap.size, 5, none⟩ = some (.bool true) := (k1.cell 5).trans (by simp [HT.out]); obtain ⟨z0, _, _, _, _⟩ := hc1.cells)
                        go_wp2_with (first | (go_at_call 35; with_reducible refine (W1.out _).mono ?_; rintro e w' ⟨rfl, rfl⟩) | (go_at_call 35; with_reducible refine (W2.out _).mono ?_; rintro e w' ⟨rfl, rfl⟩) | (go_at_call 35; with_reducible refine (W3.out _).mono ?_; rintro e w' ⟨rfl, rfl⟩))
                        go_ret
                        exact ckEnds_bad (HE.out.trans HD.out) (by decide) hgw
                  · have W3 := Lib.hid (fun W => within_no c.only 0 2 W h3)
                    have HD := Lib.hid (show cpE S c = 2 by rw [HP.out, if_neg (fun h => h3 ⟨h.2.1, h.2.2.1⟩)])
                    clear h3
                    go_enter Tryd.func29, Tryd.ntmps29
                    go_wp2_with (go_at_call 45; with_reducible refine (CN.out).mono ?_; rintro e w1 ⟨rfl, hc1, hg1⟩; have hgw := only_trans hg0 hg1; have k1 := k0.kept hg1 (fun e => by have := Option.some.inj e; omega); have x0 := k1.cell 0; have x1 := k1.cell 1; have x2 := k1.cell 2; have x3 := k1.cell 3; have x4 := k1.cell 4; have x5 := k1.cell 5; obtain ⟨z0, _, _, _, _⟩ := hc1.cells)
                    go_wp2_with (first | (go_at_call 35; with_reducible refine (W1.out _).mono ?_; rintro e w' ⟨rfl, rfl⟩) | (go_at_call 35; with_reducible refine (W2.out _).mono ?_; rintro e w' ⟨rfl, rfl⟩) | (go_at_call 35; with_reducible refine (W3.out _).mono ?_; rintro e w' ⟨rfl, rfl⟩))
                    go_ret
                    exact ckEnds_bad (HE.out.trans HD.out) (by decide) hgw
              · have b3 : (c.shift == 0) = false := beq_eq_false_iff_ne.2 s3
                have HS := Lib.hid (show c.shift ≠ -12 ∧ c.shift ≠ 12 ∧ c.shift ≠ 0 from ⟨s1, s2, s3⟩)
                clear s1 s2 s3
                have HD := Lib.hid (show cpE S c = 2 by rw [HP.out, if_neg (by have := HS.out; omega)])
                go_enter Tryd.func29, Tryd.ntmps29
                go_wp2_with (go_at_call 45; with_reducible refine (CN.out).mono ?_; rintro e w1 ⟨rfl, hc1, hg1⟩; have hgw := only_trans hg0 hg1; have k1 := k0.kept hg1 (fun e => by have := Option.some.inj e; omega); have x0 := k1.cell 0; have x1 := k1.cell 1; have x2 := k1.cell 2; have x3 := k1.cell 3; have x4 := k1.cell 4; have x5 := k1.cell 5; obtain ⟨z0, _, _, _, _⟩ := hc1.cells)
                go_wp2_with (first | (go_at_call 35; with_reducible refine (W1.out _).mono ?_; rintro e w' ⟨rfl, rfl⟩) | (go_at_call 35; with_reducible refine (W2.out _).mono ?_; rintro e w' ⟨rfl, rfl⟩))
                go_ret
                exact ckEnds_bad (HE.out.trans HD.out) (by decide) hgw
        · have W2 := Lib.hid (fun W => within_no c.to 0 ((S.ds.length : Int) - 1) W h2)
          have HD := Lib.hid (show cpE S c = 4 by unfold cpE; rw [if_neg (by omega)])
          clear h1 h2
          go_enter Tryd.func29, Tryd.ntmps29
          go_wp2_with (go_at_call 45; with_reducible refine (CN.out).mono ?_; rintro e w1 ⟨rfl, hc1, hg1⟩; have hgw := only_trans hg0 hg1; have k1 := k0.kept hg1 (fun e => by have := Option.some.inj e; omega); have x0 := k1.cell 0; have x1 := k1.cell 1; have x2 := k1.cell 2; have x3 := k1.cell 3; have x4 := k1.cell 4; have x5 := k1.cell 5; obtain ⟨z0, _, _, _, _⟩ := hc1.cells)
          go_wp2_with (first | (go_at_call 35; with_reducible refine (W1.out _).mono ?_; rintro e w' ⟨rfl, rfl⟩) | (go_at_call 35; with_reducible refine (W2.out _).mono ?_; rintro e w' ⟨rfl, rfl⟩))
          go_ret
          exact ckEnds_bad (HE.out.trans HD.out) (by decide) hgw
      · have W1 := Lib.hid (fun W => within_no c.frm 0 ((S.ds.length : Int) - 1) W h1)
        have HD := Lib.hid (show cpE S c = 4 by unfold cpE; rw [if_neg (by omega)])
        clear h1
        go_enter Tryd.func29, Tryd.ntmps29
        go_wp2_with (go_at_call 45; with_reducible refine (CN.out).mono ?_; rintro e w1 ⟨rfl, hc1, hg1⟩; have hgw := only_trans hg0 hg1; have k1 := k0.kept hg1 (fun e => by have := Option.some.inj e; omega); have x0 := k1.cell 0; have x1 := k1.cell 1; have x2 := k1.cell 2; have x3 := k1.cell 3; have x4 := k1.cell 4; have x5 := k1.cell 5; obtain ⟨z0, _, _, _, _⟩ := hc1.cells)
        go_wp2_with (go_at_call 35; with_reducible refine (W1.out _).mono ?_; rintro e w' ⟨rfl, rfl⟩)
        go_ret
        exact ckEnds_bad (HE.out.trans HD.out) (by decide) hgw
end Go.Proofs.YtkddeliifadcoaaDoor
