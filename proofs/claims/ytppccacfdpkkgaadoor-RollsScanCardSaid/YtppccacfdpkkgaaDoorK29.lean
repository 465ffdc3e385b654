/-
  CONTRACTS: least, Straighten.
-/
import Derived.Test.YtppccacfdpkkgaaDoorK28
import Derived.Shelf.Spec.TrailingZeros
import Derived.Deep.Cut
import Derived.Deep.CutRange
namespace Go.Proofs.YtppccacfdpkkgaaDoor
open Go.RowKit
/-- The table of the lowest bits. -/
def Deb (w : World) : Prop := ∀ j, j < 64 → w.cell? ⟨0, j, none⟩ = some (.int .u8 (Lib.deBruijn64tab.getD j 0))
theorem Deb.below {w w' : World} (h : Deb w) (hb : Below w.heap.size w w') : Deb w' := fun j hj => (hb.cell (cell_size (h j hj))).trans (h j hj)
theorem tz64_at (x k idx : Nat) (w : World) (hx0 : ((x : Int) == 0) = false)
    (key : IntKind.u64.wrap (bits BinOp.and IntKind.u64 (x : Int) (IntKind.u64.wrap (-(x : Int))) * 285870213051353865) / 288230376151711744 = (idx : Int))
    (hi : idx < 64) (hk : k < 64) (hcell : w.cell? ⟨0, idx, none⟩ = some (.int .u8 k)) :
    Calls Tryd.prog 60 #[.int .u64 x] w fun e w' => e = .returned (.int .i64 k) ∧ w' = w := by
  go_enter Tryd.func60, Tryd.ntmps60
  go_wp2_with (simp only [key])
  go_ret
  exact ⟨rfl, rfl⟩
theorem tz64_zero (w : World) : Calls Tryd.prog 60 #[.int .u64 0] w fun e w' => e = .returned (.int .i64 64) ∧ w' = w := by
  go_enter Tryd.func60, Tryd.ntmps60
  go_wp2
  go_ret
  exact ⟨rfl, rfl⟩
theorem tz64_any (x : Nat) (hx : x < 18446744073709551616) (w : World) (hT : Deb w) : Calls Tryd.prog 60 #[.int .u64 x] w fun e w' => e = .returned (.int .i64 (Lib.ctz 64 x)) ∧ w' = w := by
  by_cases hx0 : x = 0
  · subst hx0
    exact tz64_zero w
  · obtain ⟨hlow, hk⟩ := Lib.lowest_bit 64 x hx0 hx
    obtain ⟨hi, htab⟩ := Lib.deBruijn64_at _ hk
    have hcell := hT _ hi
    rw [htab] at hcell
    exact tz64_at x _ _ w (by simp; omega) (tz64_key x _ hx hx0 hlow) hi hk hcell
theorem ctz_le {x : Nat} (h : x < 2 ^ 64) : Lib.ctz 64 x ≤ 64 := by
  by_cases h0 : x = 0
  · subst h0; exact Nat.le_refl _
  · exact Nat.le_of_lt (ctz_low h0 h).1
set_option maxRecDepth 100000 in
theorem least_zero (b : Nat) (hb : b < 2 ^ 64) (w : World) (hT : Deb w) :
    Calls Tryd.prog 49 #[.agg #[.int .u64 0, .int .u64 b]] w fun e w' => e = .returned (.int .i64 ((64 + Lib.ctz 64 b : Nat) : Int)) ∧ Below w.heap.size w w' := by
  have hb0 : Below w.heap.size w (w.alloc (.cells #[.int .u64 0, .int .u64 b] 78)) := (Below.refl _ _).alloc (Nat.le_refl _) _
  have HT := Lib.hid (hT.below hb0)
  have HB := Lib.hid hb0
  have hc2 := ctz_le hb
  obtain ⟨c, hc⟩ : ∃ c, Lib.ctz 64 b = c := ⟨_, rfl⟩
  have HC := Lib.hid hc
  rw [hc] at hc2
  clear hc hb0 hT
  go_enter Tryd.func49, Tryd.ntmps49
  go_wp2_with (go_at_call 60; refine (tz64_any b hb _ HT.out).mono ?_; rw [HC.out]; rintro e w' ⟨rfl, rfl⟩)
  go_ret
  exact ⟨by rw [HC.out]; simp, HB.out⟩
set_option maxRecDepth 100000 in
theorem least_pos (a b : Nat) (ha : a < 2 ^ 64) (h0 : a ≠ 0) (w : World) (hT : Deb w) :
    Calls Tryd.prog 49 #[.agg #[.int .u64 a, .int .u64 b]] w fun e w' => e = .returned (.int .i64 (Lib.ctz 64 a)) ∧ Below w.heap.size w w' := by
  have hb0 : Below w.heap.size w (w.alloc (.cells #[.int .u64 a, .int .u64 b] 78)) := (Below.refl _ _).alloc (Nat.le_refl _) _
  have HT := Lib.hid (hT.below hb0)
  have HB := Lib.hid hb0
  have h1 : ((a : Int) == 0) = false := by rw [beq_eq_false_iff_ne]; omega
  have h2 : ¬ (a : Int) = 0 := by omega
  have hc1 := ctz_le ha
  obtain ⟨c, hc⟩ : ∃ c, Lib.ctz 64 a = c := ⟨_, rfl⟩
  have HC := Lib.hid hc
  rw [hc] at hc1
  clear hc hb0 hT
  go_enter Tryd.func49, Tryd.ntmps49
  go_wp2_with (go_at_call 60; refine (tz64_any a ha _ HT.out).mono ?_; rw [HC.out]; rintro e w' ⟨rfl, rfl⟩)
  go_ret
  exact ⟨by rw [HC.out]; rfl, HB.out⟩
theorem least_any (x : Rw) (hx : RwOk x) (w : World) (hT : Deb w) :
    Calls Tryd.prog 49 #[.agg #[.int .u64 x.1, .int .u64 x.2]] w fun e w' => e = .returned (.int .i64 (lstQ x)) ∧ Below w.heap.size w w' := by
  obtain ⟨a, b⟩ := x
  by_cases h0 : a = 0
  · subst h0
    exact least_zero b hx.hi w hT
  · have h := least_pos a b hx.lo h0 w hT
    rw [show lstQ (a, b) = Lib.ctz 64 a from if_neg h0]
    exact h
theorem least_at (x : Rw) (hx : RwOk x) (ln : Int) (h : (lstQ x : Int) = ln) (w : World) (hT : Deb w) :
    Calls Tryd.prog 49 #[.agg #[.int .u64 x.1, .int .u64 x.2]] w fun e w' => e = .returned (.int .i64 ln) ∧ Below w.heap.size w w' := by
  rw [← h]
  exact least_any x hx w hT
theorem FlInv.keep {W3 wr w' : World} {P b : Nat} {K : Int} {pv : Value} {qs : List Rw} {cs : Array Value} (h : FlInv W3 wr P K pv qs) (hg : wr.grownBy w' (some b)) (hb : W3.heap.size ≤ b) (hne : pv.ownBlock ≠ some b) (hk : Blk wr b 78 cs) : FlInv W3 w' P K pv qs :=
  ⟨h.p.kept' hg (h.p.ne hk (by decide)), h.rows.kept hg (.inr hne), h.pb, h.b.grown hg h.b.size (fun j e => by cases e; exact hb)⟩
theorem put_zero {W : World} {NB : Nat} {q : Rw} (h : Blk W NB 78 #[.int .u64 q.1, .int .u64 q.2]) (hq : RwOk q) (hb : Bool) :
    Calls Tryd.prog 34 #[.pointer (some ⟨NB, 0, none⟩), .int .i64 0, .bool hb] W fun e w' => e = .returned (.tuple #[]) ∧ Blk w' NB 78 #[.int .u64 (putR q 0 hb).1, .int .u64 (putR q 0 hb).2] ∧ W.grownBy w' (some NB) ∧ w'.heap.size = W.heap.size := put_box h hq 0 (by omega) hb
/-- The rows that are straightened so far. -/
structure StMade (qs : List Rw) (rows : List (List Int)) (sk : Int) (n i : Nat) (qs2 : List Rw) : Prop where
  len : qs2.length = i
  row : ∀ j (h1 : j < qs2.length) (h2 : j < qs.length), ∃ y, MvQ qs[j] (-(sk + shiftP sk rows (j + 1))) n y ∧ qs2[j] = putR y 0 true
theorem stMade_zero (qs : List Rw) (rows : List (List Int)) (sk : Int) (n : Nat) : StMade qs rows sk n 0 [] := ⟨rfl, fun j h => absurd h (Nat.not_lt_zero j)⟩
theorem StMade.next {qs : List Rw} {rows : List (List Int)} {sk : Int} {n i : Nat} {qs2 : List Rw} (h : StMade qs rows sk n i qs2) (hq : i < qs.length) {s : Int} (hs : shiftP sk rows (i + 1) = s) {x y q : Rw} (hx : qs[i] = x) (hm : MvQ x (-sk - s) n y) (hq2 : q = putR y 0 true) : StMade qs rows sk n (i + 1) (qs2 ++ [q]) where
  len := by rw [List.length_append, h.len]; rfl
  row j h2 h3 := by
    by_cases e : j < qs2.length
    · rw [List.getElem_append_left e]
      exact h.row j e h3
    · have ej : j = i := by rw [List.length_append, List.length_singleton, h.len] at h2; have := h.len; omega
      subst ej
      refine ⟨y, ?_, ?_⟩
      · rw [hs, hx, show -(sk + s) = -sk - s by omega]
        exact hm
      · rw [List.getElem_concat_length, hq2]
        exact h.len.symm
theorem StMade.told {R : Ro} {qs : List Rw} {sk : Int} {n i : Nat} {qs2 : List Rw} (h : StMade qs R.rows sk n i qs2) (hi : i = R.rows.length) (hg : RollGood R false) (hqs : QsOf qs R) (hn : (n : Int) = R.tracks - 2 * sk) (h128 : n ≤ 128) : (⟨(n : Int), qs2.map fun q => told (hole q) n⟩ : Ro) = strRo R sk := by
  unfold strRo
  rw [hn]
  congr 1
  apply List.ext_getElem
  · rw [List.length_map, List.length_map, List.length_range, h.len]; exact hi
  · intro j h1 h2
    have hj : j < R.rows.length := by simpa using h2
    have hj2 : j < qs.length := by rw [hqs.len]; exact hj
    have hj3 : j < qs2.length := by rw [h.len]; omega
    rw [List.getElem_map, List.getElem_map, List.getElem_range]
    obtain ⟨y, hy, e⟩ := h.row j hj3 hj2
    rw [e]
    unfold strRow
    rw [getD_at hj, show (R.tracks - 2 * sk).toNat = n by omega]
    exact str_row (hqs.at' j hj2 hj) (good_all hg _ (List.getElem_mem hj)) h128 hy
theorem strP_range {R : Ro} {sk : Int} (h : sk < 0 ∨ 10 < sk ∨ R.tracks < 2 + 2 * sk ∨ 128 < R.tracks) : strP R sk = (⟨0, []⟩, 7) := by unfold strP; rw [if_pos h]
theorem strP_roll {R : Ro} {sk : Int} (h : ¬ (sk < 0 ∨ 10 < sk ∨ R.tracks < 2 + 2 * sk ∨ 128 < R.tracks)) (h2 : rollErr R false ≠ 0) : strP R sk = (⟨0, []⟩, rollErr R false) := by unfold strP; rw [if_neg h, if_neg h2]
theorem strP_good {R : Ro} {sk : Int} (h : ¬ (sk < 0 ∨ 10 < sk ∨ R.tracks < 2 + 2 * sk ∨ 128 < R.tracks)) (h2 : rollErr R false = 0) : strP R sk = (strRo R sk, 0) := by unfold strP; rw [if_neg h, if_pos h2]
set_option maxRecDepth 100000 in
set_option maxHeartbeats 12800000 in
theorem str_good (R : Ro) (rok : RoOk R) (rv : Value) (g : Nat → Value) (sk : Int) (w : World) (hd : Deb w) (hr : RoRd w rv g R)
    (he : rollErr R false = 0) (h1 : 0 ≤ sk) (h2 : sk ≤ 10) (h3 : 2 + 2 * sk ≤ R.tracks) :
    Calls Tryd.prog 27 #[.agg #[.int .i64 R.tracks, rv], .int .i64 sk] w (RoEnds (strP R sk) w) := by
  have hb0 : Below w.heap.size w ((w.alloc (.cells #[.int .i64 R.tracks, rv] 24)).alloc zRoll) := (((Below.refl w.heap.size w).alloc (Nat.le_refl _) _).alloc (by simp) _)
  have k1 := (Blk.new w 24 #[.int .i64 R.tracks, rv]).alloc zRoll
  have k2 := Blk.new (w.alloc (.cells #[.int .i64 R.tracks, rv] 24)) 24 #[.int .i64 0, .slice none 0 0]
  rw [World.size_alloc] at k2
  have HR := Lib.hid hr
  have HO := Lib.hid rok
  have HG := Lib.hid (rollGood he)
  have HRE := Lib.hid he
  have HD := Lib.hid hd
  have HB0 := Lib.hid hb0
  have HX0 := Lib.hid k1
  have HY0 := Lib.hid k2
  obtain ⟨av, cv, rfl⟩ := hr.form
  have hn2 := (rollGood he).len
  have ht3 := (rollGood he).hi
  have x0 := k1.cell 0
  have x1 := k1.cell 1
  have hwr1 : IntKind.i64.wrap (2 * sk) = 2 * sk := IntWalk.i64_in _ (by omega)
  have hc1 : ¬ R.tracks < 2 + 2 * sk := by omega
  have hc2 : ¬ 128 < R.tracks := by omega
  clear hr rok hb0 k1 k2 he hd
  go_enter Tryd.func27, Tryd.ntmps27
  go_wp2_with fail
  generalize ((w.alloc (.cells #[.int .i64 R.tracks, .slice av R.rows.length cv] 24)).alloc zRoll) = W0 at *
  refine (load_any R false HO.out _ g _ (HR.out.later HB0.out)).mono ?_
  rintro e W1 ⟨hb1, ⟨hne, rfl⟩ | ⟨he, P, pv, qs, rfl, hp, hqs⟩⟩
  · exact absurd HRE.out hne
  · have HB1 := Lib.hid (below_step HB0.out hb1)
    have HY1 := Lib.hid (HY0.out.below hb1)
    obtain ⟨pa, pc, rfl⟩ := hp.form
    have HPP := Lib.hid hp
    have HQS := Lib.hid hqs
    have HQL := Lib.hid hqs.len
    have p0 : W1.cell? ⟨P, 0, none⟩ = some (.int .i64 R.tracks) := hp.p.cell 0
    have p1 : (W1.alloc (.cells #[.int .i64 (R.tracks - 2 * sk), .slice none 0 0] 74)).cell? ⟨P, 1, none⟩ = some (.slice pa qs.length pc) := cell_alloc (show W1.cell? ⟨P, 1, none⟩ = some (.slice pa qs.length pc) from hp.p.cell 1) _
    have hql : qs.length ≤ 20000 := by rw [hqs.len]; exact hn2
    clear hb1 he hp hqs x0 x1
    go_upto_region 8 with fail
    have HI0 : RowKit.Hid (FlInv W1 (W1.alloc (.cells #[.int .i64 (R.tracks - 2 * sk), .slice none 0 0] 74)) W1.heap.size (R.tracks - 2 * sk) (.slice none 0 0) []) := Lib.hid (fl_start _ _)
    obtain ⟨n, hnk⟩ : ∃ n : Nat, (n : Int) = R.tracks - 2 * sk := ⟨(R.tracks - 2 * sk).toNat, by omega⟩
    have hn128 : n ≤ 128 := by omega
    have hn0 : 2 ≤ n := by omega
    have HNK := Lib.hid hnk
    rw [← hnk] at HI0 ⊢ p1
    clear p0 hnk
    go_wp2
    go_loopw [9, 57] (fun sv y wr => ∃ (i : Nat) (p2 : Value) (qs2 : List Rw), i ≤ qs.length ∧ sv = .int .i64 (shiftP sk R.rows i) ∧ y = .int .i64 i ∧ RowKit.Hid (FlInv W1 wr W1.heap.size (n : Int) p2 qs2) ∧ RowKit.Hid (StMade qs R.rows sk n i qs2)) (fun _ y _ => qs.length - (intOf y).toNat)
    case atStart => exact ⟨0, _, [], Nat.zero_le _, rfl, rfl, HI0, Lib.hid (stMade_zero _ _ _ _)⟩
    clear HI0 p1
    obtain ⟨i, p2, qs2, hi, rfl, rfl, hI, hM⟩ := hrel
    obtain ⟨s, hs⟩ : ∃ s, shiftP sk R.rows i = s := ⟨_, rfl⟩
    rw [hs]
    have hsin := shiftP_in h1 (good_all HG.out) i
    rw [hs] at hsin
    obtain ⟨hs1, hs2⟩ := hsin
    have HS := Lib.hid hs
    clear hs
    by_cases hlt : i < qs.length
    · have hi2 : (i : Int) < (qs.length : Int) := by omega
      have hri : i < R.rows.length := by rw [← HQL.out]; exact hlt
      obtain ⟨x, hx⟩ : ∃ x, qs[i] = x := ⟨_, rfl⟩
      have HXO := Lib.hid (show RwOk x by rw [← hx]; exact HPP.out.ok _ (List.getElem_mem hlt))
      obtain ⟨PG, pcap, epv, hpb⟩ := HPP.out.b (by omega)
      cases epv
      obtain ⟨r0, r1⟩ := rwB_cells (hpb.below hI.out.b).r hlt
      rw [hx] at r0 r1
      obtain ⟨ln, hln⟩ : ∃ ln : Int, lstL R.rows[i] = ln := ⟨_, rfl⟩
      have hlq : (lstQ x : Int) = ln := by rw [← hx, ← hln]; exact lstQ_is (HQS.out.at' i hlt hri) (good_all HG.out _ (List.getElem_mem hri)) (good_row HG.out hri).2.1
      obtain ⟨hl1, hl2⟩ := lstL_in (good_all HG.out _ (List.getElem_mem hri))
      rw [hln] at hl1 hl2
      have HLQ := Lib.hid hlq
      have HSN := Lib.hid (show shiftP sk R.rows (i + 1) = if ln - sk ≤ sk ∧ (i = 0 ∨ (ln - sk - s ≤ 1 ∧ s - (ln - sk) ≤ 1)) then ln - sk else s by rw [shiftP, shiftN_lst h2, getD_at hri, hln, HS.out])
      have HX := Lib.hid hx
      have hal : Below wr.heap.size wr (wr.alloc (.cells #[.int .u64 x.1, .int .u64 x.2] 78)) := (Below.refl _ _).alloc (Nat.le_refl _) _
      have HAL := Lib.hid hal
      have HXB := Lib.hid (Blk.new wr 78 #[.int .u64 x.1, .int .u64 x.2])
      clear hx hpb hlq hln hal
      go_upto_region 12 with (go_at_call 49; refine (least_at x HXO.out ln HLQ.out _ (HD.out.below (below_step HB1.out (below_step hI.out.b HAL.out)))).mono ?_; rintro e W2 ⟨rfl, hb2⟩; have HI2 := Lib.hid ((hI.out.below HAL.out).below hb2); have HXB2 := Lib.hid (HXB.out.below hb2); clear hb2)
      obtain ⟨s', hs'⟩ : ∃ s', shiftP sk R.rows (i + 1) = s' := ⟨_, rfl⟩
      have hsin' := shiftP_in h1 (good_all HG.out) (i + 1)
      rw [hs'] at hsin' HSN
      obtain ⟨hs3, hs4⟩ := hsin'
      have HS' := Lib.hid hs'
      clear hs' r0 r1
      obtain ⟨bb, hbb⟩ : ∃ bb, decide (ln - sk ≤ sk ∧ (i = 0 ∨ (ln - sk - s ≤ 1 ∧ s - (ln - sk) ≤ 1))) = bb := ⟨_, rfl⟩
      have HBB := Lib.hid hbb
      clear hbb
      go_cut [84, 57] from 57 to 107 (fun x84 x57 wx => x84 = .bool bb ∧ x57 = .int .i64 i ∧ wx = W2)
      case first =>
        by_cases c1 : ln - sk ≤ sk
        · by_cases c2 : i = 0
          · have c3 : ((i : Int) == 0) = true := by rw [beq_iff_eq]; omega
            have HE : RowKit.Hid (bb = true) := Lib.hid (by rw [← HBB.out]; exact decide_eq_true ⟨c1, .inl c2⟩)
            clear c2
            go_wp2
            go_meet
            exact ⟨by rw [HE.out], rfl, rfl⟩
          · have c3 : ((i : Int) == 0) = false := by rw [beq_eq_false_iff_ne]; omega
            by_cases c4 : ln - sk - s ≤ 1
            · by_cases c5 : s - (ln - sk) ≤ 1
              · have HE : RowKit.Hid (bb = true) := Lib.hid (by rw [← HBB.out]; exact decide_eq_true ⟨c1, .inr ⟨c4, c5⟩⟩)
                clear c2
                go_wp2
                go_meet
                exact ⟨by rw [HE.out], rfl, rfl⟩
              · have HE : RowKit.Hid (bb = false) := Lib.hid (by rw [← HBB.out]; exact decide_eq_false (by omega))
                clear c2
                go_wp2
                go_meet
                exact ⟨by rw [HE.out], rfl, rfl⟩
            · have HE : RowKit.Hid (bb = false) := Lib.hid (by rw [← HBB.out]; exact decide_eq_false (by omega))
              clear c2
              go_wp2
              go_meet
              exact ⟨by rw [HE.out], rfl, rfl⟩
        · have HE : RowKit.Hid (bb = false) := Lib.hid (by rw [← HBB.out]; exact decide_eq_false (by omega))
          go_wp2
          go_meet
          exact ⟨by rw [HE.out], rfl, rfl⟩
      case rest =>
      obtain ⟨rfl, rfl, hwc⟩ := hcut
      rw [hwc]
      clear hwc
      go_upto_if 84 with fail
      go_cut [9, 57] from 57 to 107 (fun x9 x57 wx => x9 = .int .i64 s' ∧ x57 = .int .i64 i ∧ wx = W2)
      case first =>
        have hsn := HSN.out
        have hbb := HBB.out
        cases bb with
        | true =>
          rw [if_pos (of_decide_eq_true hbb)] at hsn
          have HE := Lib.hid hsn
          clear hsn hbb
          go_wp2
          go_meet
          exact ⟨by rw [HE.out], rfl, rfl⟩
        | false =>
          rw [if_neg (of_decide_eq_false hbb)] at hsn
          have HE := Lib.hid hsn
          clear hsn hbb
          go_wp2
          go_meet
          exact ⟨by rw [HE.out], rfl, rfl⟩
      case rest =>
        obtain ⟨rfl, rfl, hwc⟩ := hcut
        rw [hwc]
        clear hwc
        go_upto_region 14 with fail
        have hmxx : Tryd.prog.follows .mixedOrders = true := by kernel_rfl
        refine wp_normal (wp_region_flowJ (fun xX => { tmps := #[.agg #[.int .i64 R.tracks, .slice av R.rows.length cv], .int .i64 sk, .pointer (some ⟨w.heap.size, 0, none⟩), undef, .pointer (some ⟨w.heap.size + 1, 0, none⟩), .int .i64 0, .pointer (some ⟨P, 0, none⟩), .int .i64 0, .pointer (some ⟨W1.heap.size, 0, none⟩), .int .i64 s', .int .i64 (i : Int), .pointer (some ⟨wr.heap.size, 0, none⟩), .int .i64 (ln - sk), (xX 13), .int .i64 sk, .bool (decide (sk < 0)), .bool (decide (sk < 0)), .int .i64 sk, .bool (decide (10 < sk)), .bool (decide (sk < 0) || decide (10 < sk)), .bool (decide (sk < 0) || decide (10 < sk)), .pointer (some ⟨w.heap.size, 0, none⟩), .int .i64 R.tracks, .int .i64 sk, .int .i64 (2 * sk), .int .i64 (2 + 2 * sk), .bool false, .bool (decide (sk < 0) || decide (10 < sk)), .bool (decide (sk < 0) || decide (10 < sk)), .pointer (some ⟨w.heap.size, 0, none⟩), .int .i64 R.tracks, .bool false, .bool (decide (sk < 0) || decide (10 < sk)), undef, .tuple #[.pointer (some ⟨P, 0, none⟩), .int .i64 0], .agg #[.int .i64 R.tracks, .slice av R.rows.length cv], .tuple #[.pointer (some ⟨P, 0, none⟩), .int .i64 0], .pointer (some ⟨P, 0, none⟩), .int .i64 0, .int .i64 0, .bool false, undef, undef, .pointer (some ⟨P, 0, none⟩), .pointer (some ⟨P, 0, none⟩), .pointer (some ⟨P, 0, none⟩), .int .i64 R.tracks, .int .i64 sk, .int .i64 (2 * sk), .int .i64 (n : Int), .agg #[.int .i64 (n : Int), .slice none 0 0], .pointer (some ⟨W1.heap.size, 0, none⟩), .pointer (some ⟨P, 0, none⟩), .pointer (some ⟨P, 0, none⟩), .pointer (some ⟨P, 1, none⟩), .slice (some ⟨PG, 0, none⟩) qs.length pc, .int .i64 (qs.length : Int), .int .i64 (i : Int), u58, u59, u60, u61, u62, u63, u64, u65, u66, u67, u68, u69, u70, u71, u72, u73, u74, u75, u76, u77, u78, u79, u80, u81, u82, u83, u84, u85, (xX 86), (xX 87), (xX 88), (xX 89), (xX 90), (xX 91), (xX 92), (xX 93), (xX 94), (xX 95), u96, u97, u98, u99, u100, u101, u102, u103, u104, u105, u106, u107, undef, undef], defers := [] }) (fun iI v z => match iI with
          | 0 => v = .agg #[.int .u64 x.1, .int .u64 x.2]
          | 1 => v = .int .i64 sk
          | 2 => v = .int .i64 (-sk)
          | 3 => v = .int .i64 s'
          | 4 => v = .int .i64 (-sk - s')
          | 5 => v = .pointer (some ⟨W1.heap.size, 0, none⟩)
          | 6 => v = .pointer (some ⟨W1.heap.size, 0, none⟩)
          | 7 => v = .pointer (some ⟨W1.heap.size, 0, none⟩)
          | 8 => v = .int .i64 n
          | 9 => ∃ (qa qb : Nat), v = .agg #[.int .u64 qa, .int .u64 qb] ∧ MvQ x (-sk - s') n (qa, qb)
          | 10 => ∃ (bb qa qb : Nat), v = .pointer (some ⟨bb, 0, none⟩) ∧ W2.heap.size ≤ bb ∧ p2.ownBlock ≠ some bb ∧ Blk z bb 78 #[.int .u64 qa, .int .u64 qb]
          | 11 => True
          | _ => True) (JA 11 11 W2 (fun xX z => ∃ (bb : Nat) (q : Rw), xX 13 = .pointer (some ⟨bb, 0, none⟩) ∧ MvQ x (-sk - s') n q ∧ Blk z bb 78 #[.int .u64 q.1, .int .u64 q.2] ∧ FlInv W1 z W1.heap.size (n : Int) p2 qs2 ∧ p2.ownBlock ≠ some bb ∧ W1.heap.size ≤ bb)) (fun n => (#[.agg #[.int .i64 R.tracks, .slice av R.rows.length cv], .int .i64 sk, .pointer (some ⟨w.heap.size, 0, none⟩), undef, .pointer (some ⟨w.heap.size + 1, 0, none⟩), .int .i64 0, .pointer (some ⟨P, 0, none⟩), .int .i64 0, .pointer (some ⟨W1.heap.size, 0, none⟩), .int .i64 s', .int .i64 (i : Int), .pointer (some ⟨wr.heap.size, 0, none⟩), .int .i64 (ln - sk), u13, .int .i64 sk, .bool (decide (sk < 0)), .bool (decide (sk < 0)), .int .i64 sk, .bool (decide (10 < sk)), .bool (decide (sk < 0) || decide (10 < sk)), .bool (decide (sk < 0) || decide (10 < sk)), .pointer (some ⟨w.heap.size, 0, none⟩), .int .i64 R.tracks, .int .i64 sk, .int .i64 (2 * sk), .int .i64 (2 + 2 * sk), .bool false, .bool (decide (sk < 0) || decide (10 < sk)), .bool (decide (sk < 0) || decide (10 < sk)), .pointer (some ⟨w.heap.size, 0, none⟩), .int .i64 R.tracks, .bool false, .bool (decide (sk < 0) || decide (10 < sk)), undef, .tuple #[.pointer (some ⟨P, 0, none⟩), .int .i64 0], .agg #[.int .i64 R.tracks, .slice av R.rows.length cv], .tuple #[.pointer (some ⟨P, 0, none⟩), .int .i64 0], .pointer (some ⟨P, 0, none⟩), .int .i64 0, .int .i64 0, .bool false, undef, undef, .pointer (some ⟨P, 0, none⟩), .pointer (some ⟨P, 0, none⟩), .pointer (some ⟨P, 0, none⟩), .int .i64 R.tracks, .int .i64 sk, .int .i64 (2 * sk), .int .i64 (n : Int), .agg #[.int .i64 (n : Int), .slice none 0 0], .pointer (some ⟨W1.heap.size, 0, none⟩), .pointer (some ⟨P, 0, none⟩), .pointer (some ⟨P, 0, none⟩), .pointer (some ⟨P, 1, none⟩), .slice (some ⟨PG, 0, none⟩) qs.length pc, .int .i64 (qs.length : Int), .int .i64 (i : Int), u58, u59, u60, u61, u62, u63, u64, u65, u66, u67, u68, u69, u70, u71, u72, u73, u74, u75, u76, u77, u78, u79, u80, u81, u82, u83, u84, u85, u86, u87, u88, u89, u90, u91, u92, u93, u94, u95, u96, u97, u98, u99, u100, u101, u102, u103, u104, u105, u106, u107, undef, undef] : Array Value).getD n undef) rfl hmxx (by kernel_rfl) (by kernel_rfl) (ja_start (of_decide_eq_true (by kernel_rfl))) (fun ℓ ℓ' xX w h hj => ja_cong (of_decide_eq_true (by kernel_rfl)) (of_decide_eq_true (by kernel_rfl)) ℓ ℓ' xX w h hj) ?put ?step ?done)
        case put =>
          intro iI oO dD ho hd xX vV
          match iI, ho with
          | 0, ho => obtain rfl := Option.some.inj (show some _ = some oO from ho); obtain rfl := Option.some.inj (show some _ = some dD from hd); rfl
          | 1, ho => obtain rfl := Option.some.inj (show some _ = some oO from ho); obtain rfl := Option.some.inj (show some _ = some dD from hd); rfl
          | 2, ho => obtain rfl := Option.some.inj (show some _ = some oO from ho); obtain rfl := Option.some.inj (show some _ = some dD from hd); rfl
          | 3, ho => obtain rfl := Option.some.inj (show some _ = some oO from ho); obtain rfl := Option.some.inj (show some _ = some dD from hd); rfl
          | 4, ho => obtain rfl := Option.some.inj (show some _ = some oO from ho); obtain rfl := Option.some.inj (show some _ = some dD from hd); rfl
          | 5, ho => obtain rfl := Option.some.inj (show some _ = some oO from ho); obtain rfl := Option.some.inj (show some _ = some dD from hd); rfl
          | 6, ho => obtain rfl := Option.some.inj (show some _ = some oO from ho); obtain rfl := Option.some.inj (show some _ = some dD from hd); rfl
          | 7, ho => obtain rfl := Option.some.inj (show some _ = some oO from ho); obtain rfl := Option.some.inj (show some _ = some dD from hd); rfl
          | 8, ho => obtain rfl := Option.some.inj (show some _ = some oO from ho); obtain rfl := Option.some.inj (show some _ = some dD from hd); rfl
          | 9, ho => obtain rfl := Option.some.inj (show some _ = some oO from ho); obtain rfl := Option.some.inj (show some _ = some dD from hd); rfl
          | 10, ho => obtain rfl := Option.some.inj (show some _ = some oO from ho); obtain rfl := Option.some.inj (show some _ = some dD from hd); rfl
          | 11, ho => obtain rfl := Option.some.inj (show some _ = some oO from ho); cases hd
          | n + 12, ho => exact absurd (Array.getElem?_eq_some_iff.1 ho).1 (by simp)
        case step =>
          intro iI oO ho ℓ xX z hj hli hup hdl hdep K hK
          match iI, ho with
          | 0, ho =>
            obtain rfl := Option.some.inj (show some _ = some oO from ho)
            have hls : ℓ 11 = false := hup 12 11 (by kernel_rfl)
            have hPl := fun xx w' (hb : Below z.heap.size z w') => ja_plain (i := 0) (x' := xx) hj (by decide) (by decide) hls hb
            have hz := hj.1 (hup 12 11 (by kernel_rfl))
            have c0 : z.cell? ⟨wr.heap.size, 0, none⟩ = some (.int .u64 x.1) := (HXB2.out.below hz).cell 0
            have c1 : z.cell? ⟨wr.heap.size, 1, none⟩ = some (.int .u64 x.2) := (HXB2.out.below hz).cell 1
            clear hdep ho hup
            dsimp only at hK ⊢
            refine wpOp_step rfl (fun K2 hK2 => ?_)
            go_simp
            exact hK2 _ _ (hK _ _ (hPl _ _ (Below.refl _ _)) (fun _ _ _ _ h => h) rfl)
          | 1, ho =>
            obtain rfl := Option.some.inj (show some _ = some oO from ho)
            have hls : ℓ 11 = false := hup 12 11 (by kernel_rfl)
            have hPl := fun xx w' (hb : Below z.heap.size z w') => ja_plain (i := 1) (x' := xx) hj (by decide) (by decide) hls hb
            clear hdep ho hup
            dsimp only at hK ⊢
            refine wpOp_step rfl (fun K2 hK2 => ?_)
            go_simp
            exact hK2 _ _ (hK _ _ (hPl _ _ (Below.refl _ _)) (fun _ _ _ _ h => h) rfl)
          | 2, ho =>
            obtain rfl := Option.some.inj (show some _ = some oO from ho)
            have q1 : xX 87 = .int .i64 sk := hdep 1 (by kernel_rfl) _ _ rfl rfl
            have hls : ℓ 11 = false := hup 12 11 (by kernel_rfl)
            have hPl := fun xx w' (hb : Below z.heap.size z w') => ja_plain (i := 2) (x' := xx) hj (by decide) (by decide) hls hb
            have hwr : IntKind.i64.wrap (-sk) = -sk := IntWalk.i64_in _ (by omega)
            clear hdep ho hup
            dsimp only at hK ⊢
            simp only [q1] at hK ⊢
            refine wpOp_step rfl (fun K2 hK2 => ?_)
            go_simp
            exact hK2 _ _ (hK _ _ (hPl _ _ (Below.refl _ _)) (fun _ _ _ _ h => h) rfl)
          | 3, ho =>
            obtain rfl := Option.some.inj (show some _ = some oO from ho)
            have hls : ℓ 11 = false := hup 12 11 (by kernel_rfl)
            have hPl := fun xx w' (hb : Below z.heap.size z w') => ja_plain (i := 3) (x' := xx) hj (by decide) (by decide) hls hb
            clear hdep ho hup
            dsimp only at hK ⊢
            refine wpOp_step rfl (fun K2 hK2 => ?_)
            go_simp
            exact hK2 _ _ (hK _ _ (hPl _ _ (Below.refl _ _)) (fun _ _ _ _ h => h) rfl)
          | 4, ho =>
            obtain rfl := Option.some.inj (show some _ = some oO from ho)
            have q2 : xX 88 = .int .i64 (-sk) := hdep 2 (by kernel_rfl) _ _ rfl rfl
            have q3 : xX 89 = .int .i64 s' := hdep 3 (by kernel_rfl) _ _ rfl rfl
            have hls : ℓ 11 = false := hup 12 11 (by kernel_rfl)
            have hPl := fun xx w' (hb : Below z.heap.size z w') => ja_plain (i := 4) (x' := xx) hj (by decide) (by decide) hls hb
            have hwr : IntKind.i64.wrap (-sk - s') = -sk - s' := IntWalk.i64_in _ (by omega)
            clear hdep ho hup
            dsimp only at hK ⊢
            simp only [q2, q3] at hK ⊢
            refine wpOp_step rfl (fun K2 hK2 => ?_)
            go_simp
            exact hK2 _ _ (hK _ _ (hPl _ _ (Below.refl _ _)) (fun _ _ _ _ h => h) rfl)
          | 5, ho =>
            obtain rfl := Option.some.inj (show some _ = some oO from ho)
            have hls : ℓ 11 = false := hup 12 11 (by kernel_rfl)
            have hPl := fun xx w' (hb : Below z.heap.size z w') => ja_plain (i := 5) (x' := xx) hj (by decide) (by decide) hls hb
            clear hdep ho hup
            dsimp only at hK ⊢
            refine wpOp_step rfl (fun K2 hK2 => ?_)
            go_simp
            exact hK2 _ _ (hK _ _ (hPl _ _ (Below.refl _ _)) (fun _ _ _ _ h => h) rfl)
          | 6, ho =>
            obtain rfl := Option.some.inj (show some _ = some oO from ho)
            have q5 : xX 91 = .pointer (some ⟨W1.heap.size, 0, none⟩) := hdep 5 (by kernel_rfl) _ _ rfl rfl
            have hls : ℓ 11 = false := hup 12 11 (by kernel_rfl)
            have hPl := fun xx w' (hb : Below z.heap.size z w') => ja_plain (i := 6) (x' := xx) hj (by decide) (by decide) hls hb
            clear hdep ho hup
            dsimp only at hK ⊢
            simp only [q5] at hK ⊢
            refine wpOp_step rfl (fun K2 hK2 => ?_)
            go_simp
            exact hK2 _ _ (hK _ _ (hPl _ _ (Below.refl _ _)) (fun _ _ _ _ h => h) rfl)
          | 7, ho =>
            obtain rfl := Option.some.inj (show some _ = some oO from ho)
            have q6 : xX 92 = .pointer (some ⟨W1.heap.size, 0, none⟩) := hdep 6 (by kernel_rfl) _ _ rfl rfl
            have hls : ℓ 11 = false := hup 12 11 (by kernel_rfl)
            have hPl := fun xx w' (hb : Below z.heap.size z w') => ja_plain (i := 7) (x' := xx) hj (by decide) (by decide) hls hb
            clear hdep ho hup
            dsimp only at hK ⊢
            simp only [q6] at hK ⊢
            refine wpOp_step rfl (fun K2 hK2 => ?_)
            go_simp
            exact hK2 _ _ (hK _ _ (hPl _ _ (Below.refl _ _)) (fun _ _ _ _ h => h) rfl)
          | 8, ho =>
            obtain rfl := Option.some.inj (show some _ = some oO from ho)
            have q7 : xX 93 = .pointer (some ⟨W1.heap.size, 0, none⟩) := hdep 7 (by kernel_rfl) _ _ rfl rfl
            have hls : ℓ 11 = false := hup 12 11 (by kernel_rfl)
            have hPl := fun xx w' (hb : Below z.heap.size z w') => ja_plain (i := 8) (x' := xx) hj (by decide) (by decide) hls hb
            have hz := hj.1 (hup 12 11 (by kernel_rfl))
            have c0 : z.cell? ⟨W1.heap.size, 0, none⟩ = some (.int .i64 n) := (HI2.out.below hz).p.cell 0
            clear hdep ho hup
            dsimp only at hK ⊢
            simp only [q7] at hK ⊢
            refine wpOp_step rfl (fun K2 hK2 => ?_)
            go_simp
            exact hK2 _ _ (hK _ _ (hPl _ _ (Below.refl _ _)) (fun _ _ _ _ h => h) rfl)
          | 9, ho =>
            obtain rfl := Option.some.inj (show some _ = some oO from ho)
            have q0 : xX 86 = .agg #[.int .u64 x.1, .int .u64 x.2] := hdep 0 (by kernel_rfl) _ _ rfl rfl
            have q4 : xX 90 = .int .i64 (-sk - s') := hdep 4 (by kernel_rfl) _ _ rfl rfl
            have q8 : xX 94 = .int .i64 n := hdep 8 (by kernel_rfl) _ _ rfl rfl
            have hls : ℓ 11 = false := hup 12 11 (by kernel_rfl)
            have hPl := fun xx w' (hb : Below z.heap.size z w') => ja_plain (i := 9) (x' := xx) hj (by decide) (by decide) hls hb
            clear hdep ho hup
            dsimp only at hK ⊢
            simp only [q0, q4, q8] at hK ⊢
            refine wpOp_step rfl (fun K2 hK2 => ?_)
            go_simp
            refine (moved_any x HXO.out (-sk - s') (by omega) (by omega) n hn128 z).mono ?_
            rintro e z1 ⟨q, rfl, hmv, hb⟩
            refine hK2 _ _ (hK _ _ (hPl _ _ hb) ?_ ⟨q.1, q.2, rfl, hmv⟩)
            intro j v' hlj _ h
            match j, h with
            | 0, h => exact h
            | 1, h => exact h
            | 2, h => exact h
            | 3, h => exact h
            | 4, h => exact h
            | 5, h => exact h
            | 6, h => exact h
            | 7, h => exact h
            | 8, h => exact h
            | 9, h => exact h
            | 10, h => obtain ⟨bb, q1, q2, e, l, ne, k⟩ := h; exact ⟨bb, q1, q2, e, l, ne, k.below hb⟩
            | 11, h => exact h
            | _ + 12, _ => trivial
          | 10, ho =>
            obtain rfl := Option.some.inj (show some _ = some oO from ho)
            have hls : ℓ 11 = false := hup 12 11 (by kernel_rfl)
            have hPl := fun xx w' (hb : Below z.heap.size z w') => ja_plain (i := 10) (x' := xx) hj (by decide) (by decide) hls hb
            have hz := hj.1 (hup 12 11 (by kernel_rfl))
            clear hdep ho hup
            dsimp only at hK ⊢
            refine wpOp_step rfl (fun K2 hK2 => ?_)
            go_simp
            have hb : Below z.heap.size z (z.alloc (.cells #[.int .u64 0, .int .u64 0] 78)) := (Below.refl _ _).alloc (Nat.le_refl _) _
            refine hK2 _ _ (hK _ _ (hPl _ _ hb) ?_ ⟨z.heap.size, 0, 0, rfl, hz.size, fun e => Nat.lt_irrefl _ (own_lt (HI2.out.below hz).rows e), Blk.new z _ _⟩)
            intro j v' hlj _ h
            match j, h with
            | 0, h => exact h
            | 1, h => exact h
            | 2, h => exact h
            | 3, h => exact h
            | 4, h => exact h
            | 5, h => exact h
            | 6, h => exact h
            | 7, h => exact h
            | 8, h => exact h
            | 9, h => exact h
            | 10, h => obtain ⟨bb, q1, q2, e, l, ne, k⟩ := h; exact ⟨bb, q1, q2, e, l, ne, k.below hb⟩
            | 11, h => exact h
            | _ + 12, _ => trivial
          | 11, ho =>
            obtain rfl := Option.some.inj (show some _ = some oO from ho)
            have h9 : ∃ (qa qb : Nat), xX 95 = .agg #[.int .u64 qa, .int .u64 qb] ∧ MvQ x (-sk - s') n (qa, qb) := hdep 9 (by kernel_rfl) _ _ rfl rfl
            obtain ⟨qa, qb, q9, r9⟩ := h9
            have h10 : ∃ (bb qa qb : Nat), xX 13 = .pointer (some ⟨bb, 0, none⟩) ∧ W2.heap.size ≤ bb ∧ p2.ownBlock ≠ some bb ∧ Blk z bb 78 #[.int .u64 qa, .int .u64 qb] := hdep 10 (by kernel_rfl) _ _ rfl rfl
            obtain ⟨bb, ea, eb, q10, l10, ne10, k10⟩ := h10
            have hz := hj.1 hli
            have f0 := k10.frozen 0
            have f1 := k10.frozen 1
            have f2 := k10.cell 0
            have f3 := k10.cell 1
            clear hdep ho hup
            dsimp only at hK ⊢
            simp only [q9, q10] at hK ⊢
            refine wpOp_step rfl (fun K2 hK2 => ?_)
            go_simp
            exact hK2 _ _ (hK undef _ (ja_last (.inl rfl) ⟨bb, (qa, qb), q10, r9, (k10.set 0 _).set 1 _, (HI2.out.below hz).keep ((set_grown z bb 0 (.int .u64 qa)).trans (set_grown _ bb 1 (.int .u64 qb))) (Nat.le_trans HI2.out.b.size l10) ne10 k10, ne10, Nat.le_trans HI2.out.b.size l10⟩) (fun _ _ _ hp _ => absurd hp (lastB_spec (by kernel_rfl) hdl)) trivial)
          | n + 12, ho => exact absurd (Array.getElem?_eq_some_iff.1 ho).1 (by simp)
        case done =>
          intro ℓ xX z hall hj
          have hf := hj.2 (hall 11 (of_decide_eq_true (by kernel_rfl)))
          obtain ⟨bb, q, q13, hmv, hk, hfl, hne, hbge⟩ := hf
          have HMV := Lib.hid hmv
          have HK4 := Lib.hid hk
          have HI4 := Lib.hid hfl
          dsimp only
          simp only [q13]
          clear hj q13 hmv hk hfl
          go_wp2_with fail
          refine (put_zero HK4.out HMV.out.1 true).mono ?_
          rintro e W5 ⟨rfl, hk5, hg5, hs5⟩
          have HI5 := Lib.hid (HI4.out.keep hg5 hbge hne HK4.out)
          obtain ⟨y, hy⟩ : ∃ y, putR q 0 true = y := ⟨_, rfl⟩
          rw [hy] at hk5
          have HK5 := Lib.hid hk5
          have HY := Lib.hid hy.symm
          have hqs2 : qs2.length ≤ 20000 := by have := hM.out.len; omega
          obtain ⟨j0, hj0, jz0, jz1, jz2⟩ := info_parts row_info
          clear hk5 hg5 hs5 hy
          go_upto_region 16 with fail
          have hmxx : Tryd.prog.follows .mixedOrders = true := by kernel_rfl
          refine wp_normal (wp_region_flowJ (fun xX => { tmps := #[.agg #[.int .i64 R.tracks, .slice av R.rows.length cv], .int .i64 sk, .pointer (some ⟨w.heap.size, 0, none⟩), undef, .pointer (some ⟨w.heap.size + 1, 0, none⟩), .int .i64 0, .pointer (some ⟨P, 0, none⟩), .int .i64 0, .pointer (some ⟨W1.heap.size, 0, none⟩), .int .i64 s', .int .i64 (i : Int), .pointer (some ⟨wr.heap.size, 0, none⟩), .int .i64 (ln - sk), .pointer (some ⟨bb, 0, none⟩), .int .i64 sk, .bool (decide (sk < 0)), .bool (decide (sk < 0)), .int .i64 sk, .bool (decide (10 < sk)), .bool (decide (sk < 0) || decide (10 < sk)), .bool (decide (sk < 0) || decide (10 < sk)), .pointer (some ⟨w.heap.size, 0, none⟩), .int .i64 R.tracks, .int .i64 sk, .int .i64 (2 * sk), .int .i64 (2 + 2 * sk), .bool false, .bool (decide (sk < 0) || decide (10 < sk)), .bool (decide (sk < 0) || decide (10 < sk)), .pointer (some ⟨w.heap.size, 0, none⟩), .int .i64 R.tracks, .bool false, .bool (decide (sk < 0) || decide (10 < sk)), undef, .tuple #[.pointer (some ⟨P, 0, none⟩), .int .i64 0], .agg #[.int .i64 R.tracks, .slice av R.rows.length cv], .tuple #[.pointer (some ⟨P, 0, none⟩), .int .i64 0], .pointer (some ⟨P, 0, none⟩), .int .i64 0, .int .i64 0, .bool false, undef, undef, .pointer (some ⟨P, 0, none⟩), .pointer (some ⟨P, 0, none⟩), .pointer (some ⟨P, 0, none⟩), .int .i64 R.tracks, .int .i64 sk, .int .i64 (2 * sk), .int .i64 (n : Int), .agg #[.int .i64 (n : Int), .slice none 0 0], .pointer (some ⟨W1.heap.size, 0, none⟩), .pointer (some ⟨P, 0, none⟩), .pointer (some ⟨P, 0, none⟩), .pointer (some ⟨P, 1, none⟩), .slice (some ⟨PG, 0, none⟩) qs.length pc, .int .i64 (qs.length : Int), .int .i64 (i : Int), u58, u59, u60, u61, u62, u63, u64, u65, u66, u67, u68, u69, u70, u71, u72, u73, u74, u75, u76, u77, u78, u79, u80, u81, u82, u83, u84, u85, xX 86, xX 87, xX 88, xX 89, xX 90, xX 91, xX 92, xX 93, xX 94, xX 95, .tuple #[], (xX 97), (xX 98), (xX 99), (xX 100), (xX 101), (xX 102), (xX 103), (xX 104), (xX 105), (xX 106), u107, undef, undef], defers := [] }) (fun iI v z => match iI with
            | 0 => v = .pointer (some ⟨W1.heap.size, 0, none⟩)
            | 1 => v = .pointer (some ⟨W1.heap.size, 0, none⟩)
            | 2 => v = .pointer (some ⟨W1.heap.size, 0, none⟩)
            | 3 => v = .pointer (some ⟨W1.heap.size, 1, none⟩)
            | 4 => v = p2
            | 5 => v = .agg #[.int .u64 y.1, .int .u64 y.2]
            | 6 => ∃ (bb : Nat), v = .slice (some ⟨bb, 0, none⟩) 1 1 ∧ p2.ownBlock ≠ some bb ∧ z.cell? ⟨bb, 0, none⟩ = some (.int .u64 y.1) ∧ z.cell? ⟨bb, 1, none⟩ = some (.int .u64 y.2)
            | 7 => ∃ (gg cap : Nat), v = .slice (some ⟨gg, 0, none⟩) (qs2.length + 1) cap ∧ Blk z W1.heap.size 74 #[.int .i64 n, p2] ∧ z.ownsRow W1.heap.size 78 2 (.slice (some ⟨gg, 0, none⟩) (qs2.length + 1) cap) (qs2.length + 1) ((qs2.map rwC).flatten ++ [.int .u64 y.1, .int .u64 y.2]) ∧ Below W1.heap.size W1 z
            | 8 => v = .pointer (some ⟨W1.heap.size, 0, none⟩)
            | 9 => v = .pointer (some ⟨W1.heap.size, 1, none⟩)
            | 10 => True
            | _ => True) (JA 7 10 W5 (fun _ z => ∃ (p3 : Value), FlInv W1 z W1.heap.size (n : Int) p3 (qs2 ++ [y]))) (fun n => (#[.agg #[.int .i64 R.tracks, .slice av R.rows.length cv], .int .i64 sk, .pointer (some ⟨w.heap.size, 0, none⟩), undef, .pointer (some ⟨w.heap.size + 1, 0, none⟩), .int .i64 0, .pointer (some ⟨P, 0, none⟩), .int .i64 0, .pointer (some ⟨W1.heap.size, 0, none⟩), .int .i64 s', .int .i64 (i : Int), .pointer (some ⟨wr.heap.size, 0, none⟩), .int .i64 (ln - sk), .pointer (some ⟨bb, 0, none⟩), .int .i64 sk, .bool (decide (sk < 0)), .bool (decide (sk < 0)), .int .i64 sk, .bool (decide (10 < sk)), .bool (decide (sk < 0) || decide (10 < sk)), .bool (decide (sk < 0) || decide (10 < sk)), .pointer (some ⟨w.heap.size, 0, none⟩), .int .i64 R.tracks, .int .i64 sk, .int .i64 (2 * sk), .int .i64 (2 + 2 * sk), .bool false, .bool (decide (sk < 0) || decide (10 < sk)), .bool (decide (sk < 0) || decide (10 < sk)), .pointer (some ⟨w.heap.size, 0, none⟩), .int .i64 R.tracks, .bool false, .bool (decide (sk < 0) || decide (10 < sk)), undef, .tuple #[.pointer (some ⟨P, 0, none⟩), .int .i64 0], .agg #[.int .i64 R.tracks, .slice av R.rows.length cv], .tuple #[.pointer (some ⟨P, 0, none⟩), .int .i64 0], .pointer (some ⟨P, 0, none⟩), .int .i64 0, .int .i64 0, .bool false, undef, undef, .pointer (some ⟨P, 0, none⟩), .pointer (some ⟨P, 0, none⟩), .pointer (some ⟨P, 0, none⟩), .int .i64 R.tracks, .int .i64 sk, .int .i64 (2 * sk), .int .i64 (n : Int), .agg #[.int .i64 (n : Int), .slice none 0 0], .pointer (some ⟨W1.heap.size, 0, none⟩), .pointer (some ⟨P, 0, none⟩), .pointer (some ⟨P, 0, none⟩), .pointer (some ⟨P, 1, none⟩), .slice (some ⟨PG, 0, none⟩) qs.length pc, .int .i64 (qs.length : Int), .int .i64 (i : Int), u58, u59, u60, u61, u62, u63, u64, u65, u66, u67, u68, u69, u70, u71, u72, u73, u74, u75, u76, u77, u78, u79, u80, u81, u82, u83, u84, u85, xX 86, xX 87, xX 88, xX 89, xX 90, xX 91, xX 92, xX 93, xX 94, xX 95, .tuple #[], u97, u98, u99, u100, u101, u102, u103, u104, u105, u106, u107, undef, undef] : Array Value).getD n undef) rfl hmxx (by kernel_rfl) (by kernel_rfl) (ja_start (of_decide_eq_true (by kernel_rfl))) (fun ℓ ℓ' xX w h hj => ja_cong (of_decide_eq_true (by kernel_rfl)) (of_decide_eq_true (by kernel_rfl)) ℓ ℓ' xX w h hj) ?put ?step ?done)
          case put =>
            intro iI oO dD ho hd xX vV
            match iI, ho with
            | 0, ho => obtain rfl := Option.some.inj (show some _ = some oO from ho); obtain rfl := Option.some.inj (show some _ = some dD from hd); rfl
            | 1, ho => obtain rfl := Option.some.inj (show some _ = some oO from ho); obtain rfl := Option.some.inj (show some _ = some dD from hd); rfl
            | 2, ho => obtain rfl := Option.some.inj (show some _ = some oO from ho); obtain rfl := Option.some.inj (show some _ = some dD from hd); rfl
            | 3, ho => obtain rfl := Option.some.inj (show some _ = some oO from ho); obtain rfl := Option.some.inj (show some _ = some dD from hd); rfl
            | 4, ho => obtain rfl := Option.some.inj (show some _ = some oO from ho); obtain rfl := Option.some.inj (show some _ = some dD from hd); rfl
            | 5, ho => obtain rfl := Option.some.inj (show some _ = some oO from ho); obtain rfl := Option.some.inj (show some _ = some dD from hd); rfl
            | 6, ho => obtain rfl := Option.some.inj (show some _ = some oO from ho); obtain rfl := Option.some.inj (show some _ = some dD from hd); rfl
            | 7, ho => obtain rfl := Option.some.inj (show some _ = some oO from ho); obtain rfl := Option.some.inj (show some _ = some dD from hd); rfl
            | 8, ho => obtain rfl := Option.some.inj (show some _ = some oO from ho); obtain rfl := Option.some.inj (show some _ = some dD from hd); rfl
            | 9, ho => obtain rfl := Option.some.inj (show some _ = some oO from ho); obtain rfl := Option.some.inj (show some _ = some dD from hd); rfl
            | 10, ho => obtain rfl := Option.some.inj (show some _ = some oO from ho); cases hd
            | n + 11, ho => exact absurd (Array.getElem?_eq_some_iff.1 ho).1 (by simp)
          case step =>
            intro iI oO ho ℓ xX z hj hli hup hdl hdep K hK
            match iI, ho with
            | 0, ho =>
              obtain rfl := Option.some.inj (show some _ = some oO from ho)
              have hls : ℓ 10 = false := hup 12 10 (by kernel_rfl)
              have hPl := fun xx w' (hb : Below z.heap.size z w') => ja_plain (i := 0) (x' := xx) hj (by decide) (by decide) hls hb
              clear hdep ho hup
              dsimp only at hK ⊢
              refine wpOp_step rfl (fun K2 hK2 => ?_)
              go_simp
              exact hK2 _ _ (hK _ _ (hPl _ _ (Below.refl _ _)) (fun _ _ _ _ h => h) rfl)
            | 1, ho =>
              obtain rfl := Option.some.inj (show some _ = some oO from ho)
              have hls : ℓ 10 = false := hup 12 10 (by kernel_rfl)
              have hPl := fun xx w' (hb : Below z.heap.size z w') => ja_plain (i := 1) (x' := xx) hj (by decide) (by decide) hls hb
              clear hdep ho hup
              dsimp only at hK ⊢
              refine wpOp_step rfl (fun K2 hK2 => ?_)
              go_simp
              exact hK2 _ _ (hK _ _ (hPl _ _ (Below.refl _ _)) (fun _ _ _ _ h => h) rfl)
            | 2, ho =>
              obtain rfl := Option.some.inj (show some _ = some oO from ho)
              have q1 : xX 98 = .pointer (some ⟨W1.heap.size, 0, none⟩) := hdep 1 (by kernel_rfl) _ _ rfl rfl
              have hls : ℓ 10 = false := hup 12 10 (by kernel_rfl)
              have hPl := fun xx w' (hb : Below z.heap.size z w') => ja_plain (i := 2) (x' := xx) hj (by decide) (by decide) hls hb
              clear hdep ho hup
              dsimp only at hK ⊢
              simp only [q1] at hK ⊢
              refine wpOp_step rfl (fun K2 hK2 => ?_)
              go_simp
              exact hK2 _ _ (hK _ _ (hPl _ _ (Below.refl _ _)) (fun _ _ _ _ h => h) rfl)
            | 3, ho =>
              obtain rfl := Option.some.inj (show some _ = some oO from ho)
              have q2 : xX 99 = .pointer (some ⟨W1.heap.size, 0, none⟩) := hdep 2 (by kernel_rfl) _ _ rfl rfl
              have hls : ℓ 10 = false := hup 12 10 (by kernel_rfl)
              have hPl := fun xx w' (hb : Below z.heap.size z w') => ja_plain (i := 3) (x' := xx) hj (by decide) (by decide) hls hb
              clear hdep ho hup
              dsimp only at hK ⊢
              simp only [q2] at hK ⊢
              refine wpOp_step rfl (fun K2 hK2 => ?_)
              go_simp
              exact hK2 _ _ (hK _ _ (hPl _ _ (Below.refl _ _)) (fun _ _ _ _ h => h) rfl)
            | 4, ho =>
              obtain rfl := Option.some.inj (show some _ = some oO from ho)
              have q3 : xX 100 = .pointer (some ⟨W1.heap.size, 1, none⟩) := hdep 3 (by kernel_rfl) _ _ rfl rfl
              have hls : ℓ 10 = false := hup 12 10 (by kernel_rfl)
              have hPl := fun xx w' (hb : Below z.heap.size z w') => ja_plain (i := 4) (x' := xx) hj (by decide) (by decide) hls hb
              have hz := hj.1 (hup 12 7 (by kernel_rfl))
              have c1 : z.cell? ⟨W1.heap.size, 1, none⟩ = some p2 := (HI5.out.below hz).p.cell 1
              clear hdep ho hup
              dsimp only at hK ⊢
              simp only [q3] at hK ⊢
              refine wpOp_step rfl (fun K2 hK2 => ?_)
              go_simp
              exact hK2 _ _ (hK _ _ (hPl _ _ (Below.refl _ _)) (fun _ _ _ _ h => h) rfl)
            | 5, ho =>
              obtain rfl := Option.some.inj (show some _ = some oO from ho)
              have hls : ℓ 10 = false := hup 12 10 (by kernel_rfl)
              have hPl := fun xx w' (hb : Below z.heap.size z w') => ja_plain (i := 5) (x' := xx) hj (by decide) (by decide) hls hb
              have hz := hj.1 (hup 12 7 (by kernel_rfl))
              have c0 : z.cell? ⟨bb, 0, none⟩ = some (.int .u64 y.1) := (HK5.out.below hz).cell 0
              have c1 : z.cell? ⟨bb, 1, none⟩ = some (.int .u64 y.2) := (HK5.out.below hz).cell 1
              clear hdep ho hup
              dsimp only at hK ⊢
              refine wpOp_step rfl (fun K2 hK2 => ?_)
              go_simp
              exact hK2 _ _ (hK _ _ (hPl _ _ (Below.refl _ _)) (fun _ _ _ _ h => h) rfl)
            | 6, ho =>
              obtain rfl := Option.some.inj (show some _ = some oO from ho)
              have q5 : xX 102 = .agg #[.int .u64 y.1, .int .u64 y.2] := hdep 5 (by kernel_rfl) _ _ rfl rfl
              have hls : ℓ 10 = false := hup 12 10 (by kernel_rfl)
              have hPl := fun xx w' (hb : Below z.heap.size z w') => ja_plain (i := 6) (x' := xx) hj (by decide) (by decide) hls hb
              have hz := hj.1 (hup 12 7 (by kernel_rfl))
              clear hdep ho hup
              dsimp only at hK ⊢
              simp only [q5] at hK ⊢
              refine wpOp_step rfl (fun K2 hK2 => ?_)
              go_simp
              have hb : Below z.heap.size z (z.alloc (.cells #[.int .u64 y.1, .int .u64 y.2] 78)) := (Below.refl _ _).alloc (Nat.le_refl _) _
              have hk := Blk.new z 78 #[.int .u64 y.1, .int .u64 y.2]
              refine hK2 _ _ (hK _ _ (hPl _ _ hb) ?_ ⟨z.heap.size, rfl, fun e => Nat.lt_irrefl _ (own_lt (HI5.out.below hz).rows e), hk.cell 0, hk.cell 1⟩)
              intro j v' hlj _ h
              match j, h with
              | 0, h => exact h
              | 1, h => exact h
              | 2, h => exact h
              | 3, h => exact h
              | 4, h => exact h
              | 5, h => exact h
              | 6, h => obtain ⟨bb, e, ne, c0, c1⟩ := h; exact ⟨bb, e, ne, (hb.cell (cell_size c0)).trans c0, (hb.cell (cell_size c1)).trans c1⟩
              | 7, h => obtain ⟨gg, cap, e, k, r, bl⟩ := h; exact ⟨gg, cap, e, k.below hb, row_later r hb, below_step bl hb⟩
              | 8, h => exact h
              | 9, h => exact h
              | 10, h => exact h
              | _ + 11, _ => trivial
            | 7, ho =>
              obtain rfl := Option.some.inj (show some _ = some oO from ho)
              have q4 : xX 101 = p2 := hdep 4 (by kernel_rfl) _ _ rfl rfl
              have h6 : ∃ (bb : Nat), xX 103 = .slice (some ⟨bb, 0, none⟩) 1 1 ∧ p2.ownBlock ≠ some bb ∧ z.cell? ⟨bb, 0, none⟩ = some (.int .u64 y.1) ∧ z.cell? ⟨bb, 1, none⟩ = some (.int .u64 y.2) := hdep 6 (by kernel_rfl) _ _ rfl rfl
              obtain ⟨bs, q6, ne6, c6, d6⟩ := h6
              have hz := hj.1 hli
              have hls : ℓ 10 = false := hup 12 10 (by kernel_rfl)
              clear hdep ho hup
              dsimp only at hK ⊢
              simp only [q4, q6] at hK ⊢
              refine wpOp_step rfl (fun K2 hK2 => ?_)
              refine step_append_lies _ rfl _ _ 72 rfl W1.heap.size 78 j0 _ 2 16 Tryd.underlying72 hj0 jz0 jz1 jz2 rfl (by omega) _ _ _ rfl (HI5.out.below hz).rows ⟨bs, 0, none⟩ 1 1 [.int .u64 y.1, .int .u64 y.2] rfl rfl (fun j u hu => match j, hu with | 0, hu => by cases hu; exact c6 | 1, hu => by cases hu; exact d6 | _ + 2, hu => by cases hu) (by simp [Value.oneCell']) (by omega) (by unfold maxLen; omega) (by omega) (HI5.out.below hz).b.size z.heap.size rfl ?_
              intro gg cap w3 hown hgrow hat hlt
              refine hK2 _ _ (hK _ _ (ja_mid (by decide) hls) ?_ ⟨gg, cap, rfl, (HI5.out.below hz).p.grown hgrow (blk_ne_row (HI5.out.below hz).p (HI5.out.below hz).rows (by decide)), hown, (HI5.out.below hz).b.grown hgrow (HI5.out.below hz).b.size (fun j e => row_ge (HI5.out.below hz).rows e)⟩)
              intro j v' hlj _ h
              match j, h with
              | 0, h => exact h
              | 1, h => exact h
              | 2, h => exact h
              | 3, h => exact h
              | 4, h => exact h
              | 5, h => exact h
              | 6, h => obtain ⟨bb, e, ne, c0, c1⟩ := h; exact ⟨bb, e, ne, hgrow.cell c0 (fun q => ne q.symm), hgrow.cell c1 (fun q => ne q.symm)⟩
              | 7, h => rw [hli] at hlj; cases hlj
              | 8, h => exact h
              | 9, h => exact h
              | 10, h => exact h
              | _ + 11, _ => trivial
            | 8, ho =>
              obtain rfl := Option.some.inj (show some _ = some oO from ho)
              have q0 : xX 97 = .pointer (some ⟨W1.heap.size, 0, none⟩) := hdep 0 (by kernel_rfl) _ _ rfl rfl
              have hls : ℓ 10 = false := hup 12 10 (by kernel_rfl)
              have hPl := fun xx w' (hb : Below z.heap.size z w') => ja_plain (i := 8) (x' := xx) hj (by decide) (by decide) hls hb
              clear hdep ho hup
              dsimp only at hK ⊢
              simp only [q0] at hK ⊢
              refine wpOp_step rfl (fun K2 hK2 => ?_)
              go_simp
              exact hK2 _ _ (hK _ _ (hPl _ _ (Below.refl _ _)) (fun _ _ _ _ h => h) rfl)
            | 9, ho =>
              obtain rfl := Option.some.inj (show some _ = some oO from ho)
              have q8 : xX 105 = .pointer (some ⟨W1.heap.size, 0, none⟩) := hdep 8 (by kernel_rfl) _ _ rfl rfl
              have hls : ℓ 10 = false := hup 12 10 (by kernel_rfl)
              have hPl := fun xx w' (hb : Below z.heap.size z w') => ja_plain (i := 9) (x' := xx) hj (by decide) (by decide) hls hb
              clear hdep ho hup
              dsimp only at hK ⊢
              simp only [q8] at hK ⊢
              refine wpOp_step rfl (fun K2 hK2 => ?_)
              go_simp
              exact hK2 _ _ (hK _ _ (hPl _ _ (Below.refl _ _)) (fun _ _ _ _ h => h) rfl)
            | 10, ho =>
              obtain rfl := Option.some.inj (show some _ = some oO from ho)
              have h7 : ∃ (gg cap : Nat), xX 104 = .slice (some ⟨gg, 0, none⟩) (qs2.length + 1) cap ∧ Blk z W1.heap.size 74 #[.int .i64 n, p2] ∧ z.ownsRow W1.heap.size 78 2 (.slice (some ⟨gg, 0, none⟩) (qs2.length + 1) cap) (qs2.length + 1) ((qs2.map rwC).flatten ++ [.int .u64 y.1, .int .u64 y.2]) ∧ Below W1.heap.size W1 z := hdep 7 (by kernel_rfl) _ _ rfl rfl
              obtain ⟨gg, cap, q7, k7, o7, b7⟩ := h7
              have q9 : xX 106 = .pointer (some ⟨W1.heap.size, 1, none⟩) := hdep 9 (by kernel_rfl) _ _ rfl rfl
              have s1 := k7.cell 1
              have s2 := k7.frozen 1
              clear hdep ho hup
              dsimp only at hK ⊢
              simp only [q7, q9] at hK ⊢
              refine wpOp_step rfl (fun K2 hK2 => ?_)
              go_simp
              exact hK2 _ _ (hK undef _ (ja_last (.inr (hdl 1 7 (by kernel_rfl))) ⟨_, FlInv.fin (a := y.1) (b := y.2) k7 o7 (Nat.le_refl _) b7⟩) (fun _ _ _ hp _ => absurd hp (lastB_spec (by kernel_rfl) hdl)) trivial)
            | n + 11, ho => exact absurd (Array.getElem?_eq_some_iff.1 ho).1 (by simp)
          case done =>
            intro ℓ xX z hall hj
            have hf := hj.2 (hall 10 (of_decide_eq_true (by kernel_rfl)))
            obtain ⟨p3, hfl⟩ := hf
            have HFL := Lib.hid hfl
            have HMN := Lib.hid (hM.out.next hlt HS'.out HX.out HMV.out HY.out)
            clear hj hfl
            dsimp only
            go_wp2
            go_roundw
            case rel => exact ⟨i + 1, p3, _, by omega, by rw [HS'.out], by go_num, HFL, HMN⟩
            case measure => simp [intOf]; omega
    · have hi2 : ¬ (i : Int) < (qs.length : Int) := by omega
      have hie : i = R.rows.length := by rw [← HQL.out]; omega
      have HBW := Lib.hid (below_step HB1.out hI.out.b)
      have HYk := Lib.hid (HY1.out.below hI.out.b)
      have HT := Lib.hid (hM.out.told hie HG.out HQS.out HNK.out hn128)
      have HGOOD := Lib.hid (strP_good (R := R) (sk := sk) (by omega) HRE.out)
      have hql2 : qs2.length ≤ 20000 := by have := hM.out.len; omega
      have HP := Lib.hid (show Pap wr W1.heap.size W1.heap.size (n : Int) p2 qs2 from ⟨hI.out.p, hI.out.rows, hI.out.pb, fun q hq => by
        obtain ⟨j, hj, rfl⟩ := List.getElem_of_mem hq
        have := hM.out.len
        obtain ⟨y, hy, e⟩ := hM.out.row j hj (by omega)
        rw [e]
        exact putR_ok hy.1 (by omega)⟩)
      have hlow2 : w.heap.size + 1 < wr.heap.size := HYk.out.lt
      clear hie
      go_wp2_with fail
      refine (roll_any n hn128 W1.heap.size W1.heap.size p2 qs2 hql2 _ HP.out).mono ?_
      rintro e W7 ⟨rv7, rg, rfl, hrd, hb7, hrk⟩
      obtain ⟨ra, rc, rfl⟩ := hrd.form
      have HZ7 := Lib.hid (HYk.out.below hb7)
      have HW7 := Lib.hid (below_step HBW.out hb7)
      have z0 := HZ7.out.cell 0
      have z1 := HZ7.out.cell 1
      have g0 := HZ7.out.frozen 0
      have g1 := HZ7.out.frozen 1
      have hg8 := (set_grown W7 (w.heap.size + 1) 0 (.int .i64 (n : Int))).trans (set_grown _ (w.heap.size + 1) 1 (.slice ra (qs2.map fun q => told (hole q) n).length rc))
      have HRK := Lib.hid (hrk _ (sameFrom_grown hlow2 hg8))
      have HZ8 := Lib.hid ((HZ7.out.set 0 (.int .i64 (n : Int))).set 1 (.slice ra (qs2.map fun q => told (hole q) n).length rc))
      have HW8 := Lib.hid ((HW7.out.setCell (p := ⟨w.heap.size + 1, 0, none⟩) (by simp only; omega) (.int .i64 (n : Int))).setCell (p := ⟨w.heap.size + 1, 1, none⟩) (by simp only; omega) (.slice ra (qs2.map fun q => told (hole q) n).length rc))
      obtain ⟨rn, hrn⟩ : ∃ rn, (qs2.map fun q => told (hole q) n).length = rn := ⟨_, rfl⟩
      rw [hrn] at HRK HZ8 HW8 ⊢
      rw [HT.out] at HRK
      clear hb7 hrd hrk hrn hg8
      go_wp2
      have c0 := HZ8.out.cell 0
      have c1 := HZ8.out.cell 1
      refine bodyPost_ret (v := .tuple #[.agg #[.int .i64 (n : Int), .slice ra rn rc], .int .i64 0]) (by simp [results, Tryd.results27, go_sem, c0, c1]) rfl ?_
      rw [HGOOD.out]
      exact ⟨_, rg, by rw [HNK.out]; rfl, HRK.out, HW8.out⟩
set_option maxRecDepth 100000 in
set_option maxHeartbeats 3200000 in
theorem str_bad (R : Ro) (rok : RoOk R) (rv : Value) (g : Nat → Value) (sk : Int) (w : World) (hr : RoRd w rv g R)
    (hne : (sk < 0 ∨ 10 < sk ∨ R.tracks < 2 + 2 * sk ∨ 128 < R.tracks) ∨ rollErr R false ≠ 0) :
    Calls Tryd.prog 27 #[.agg #[.int .i64 R.tracks, rv], .int .i64 sk] w (RoEnds (strP R sk) w) := by
  have hb0 : Below w.heap.size w ((w.alloc (.cells #[.int .i64 R.tracks, rv] 24)).alloc zRoll) := (((Below.refl w.heap.size w).alloc (Nat.le_refl _) _).alloc (by simp) _)
  have k1 := (Blk.new w 24 #[.int .i64 R.tracks, rv]).alloc zRoll
  have k2 := Blk.new (w.alloc (.cells #[.int .i64 R.tracks, rv] 24)) 24 #[.int .i64 0, .slice none 0 0]
  rw [World.size_alloc] at k2
  have HR := Lib.hid hr
  have HO := Lib.hid rok
  have HNE := Lib.hid hne
  obtain ⟨av, cv, rfl⟩ := hr.form
  clear hr rok hne
  by_cases hbad : sk < 0 ∨ 10 < sk ∨ R.tracks < 2 + 2 * sk ∨ 128 < R.tracks
  · have HQ := Lib.hid (strP_range hbad)
    have HZ := Lib.hid k2
    have HB5 := Lib.hid hb0
    have z0 := k2.cell 0
    have z1 := k2.cell 1
    have g0 := k2.frozen 0
    have g1 := k2.frozen 1
    have x0 := k1.cell 0
    clear hb0 k1 k2
    by_cases b1 : sk < 0
    · go_enter Tryd.func27, Tryd.ntmps27
      go_wp2
      have c0 := HZ.out.cell 0
      have c1 := HZ.out.cell 1
      exact bodyPost_ret (v := .tuple #[.agg #[.int .i64 0, .slice none 0 0], .int .i64 7]) (by simp [results, Tryd.results27, go_sem, c0, c1]) rfl (roEnds_bad HQ.out HB5.out)
    · by_cases b2 : 10 < sk
      · go_enter Tryd.func27, Tryd.ntmps27
        go_wp2
        have c0 := HZ.out.cell 0
        have c1 := HZ.out.cell 1
        exact bodyPost_ret (v := .tuple #[.agg #[.int .i64 0, .slice none 0 0], .int .i64 7]) (by simp [results, Tryd.results27, go_sem, c0, c1]) rfl (roEnds_bad HQ.out HB5.out)
      · have hwr1 : IntKind.i64.wrap (2 * sk) = 2 * sk := IntWalk.i64_in _ (by omega)
        by_cases b3 : R.tracks < 2 + 2 * sk
        · go_enter Tryd.func27, Tryd.ntmps27
          go_wp2
          have c0 := HZ.out.cell 0
          have c1 := HZ.out.cell 1
          exact bodyPost_ret (v := .tuple #[.agg #[.int .i64 0, .slice none 0 0], .int .i64 7]) (by simp [results, Tryd.results27, go_sem, c0, c1]) rfl (roEnds_bad HQ.out HB5.out)
        · have b4 : 128 < R.tracks := by omega
          go_enter Tryd.func27, Tryd.ntmps27
          go_wp2
          have c0 := HZ.out.cell 0
          have c1 := HZ.out.cell 1
          exact bodyPost_ret (v := .tuple #[.agg #[.int .i64 0, .slice none 0 0], .int .i64 7]) (by simp [results, Tryd.results27, go_sem, c0, c1]) rfl (roEnds_bad HQ.out HB5.out)
  · have hre := HNE.out.resolve_left hbad
    have HQ := Lib.hid (strP_roll hbad hre)
    have HRE := Lib.hid hre
    have b1 : ¬ sk < 0 := by omega
    have b2 : ¬ 10 < sk := by omega
    have b3 : ¬ R.tracks < 2 + 2 * sk := by omega
    have b4 : ¬ 128 < R.tracks := by omega
    have hwr1 : IntKind.i64.wrap (2 * sk) = 2 * sk := IntWalk.i64_in _ (by omega)
    have HB0 := Lib.hid hb0
    have HX0 := Lib.hid k1
    have HY0 := Lib.hid k2
    have x0 := k1.cell 0
    have x1 := k1.cell 1
    clear hb0 k1 k2 hbad hre
    go_enter Tryd.func27, Tryd.ntmps27
    go_wp2_with fail
    generalize ((w.alloc (.cells #[.int .i64 R.tracks, .slice av R.rows.length cv] 24)).alloc zRoll) = W0 at *
    refine (load_any R false HO.out _ g _ (HR.out.later HB0.out)).mono ?_
    rintro e W1 ⟨hb1, ⟨hne, rfl⟩ | ⟨he, P, pv, qs, rfl, hp, hqs⟩⟩
    · have HB1 := Lib.hid (below_step HB0.out hb1)
      have HY1 := Lib.hid (HY0.out.below hb1)
      have z0 := HY1.out.cell 0
      have z1 := HY1.out.cell 1
      have g0 := HY1.out.frozen 0
      have g1 := HY1.out.frozen 1
      have HZ := Lib.hid ((HY1.out.set 0 (.int .i64 0)).set 1 (.slice none 0 0))
      have HB5 := Lib.hid ((HB1.out.setCell (p := ⟨w.heap.size + 1, 0, none⟩) (by simp only; omega) (.int .i64 0)).setCell (p := ⟨w.heap.size + 1, 1, none⟩) (by simp only; omega) (.slice none 0 0))
      obtain ⟨er, her⟩ : ∃ er, rollErr R false = er := ⟨_, rfl⟩
      rw [her] at hne HQ ⊢
      have he2 : (er == 0) = false := by rw [beq_eq_false_iff_ne]; exact hne
      clear her hb1 x0 x1
      go_wp2
      have c0 := HZ.out.cell 0
      have c1 := HZ.out.cell 1
      exact bodyPost_ret (v := .tuple #[.agg #[.int .i64 0, .slice none 0 0], .int .i64 er]) (by simp [results, Tryd.results27, go_sem, c0, c1]) rfl (roEnds_bad HQ.out HB5.out)
    · exact absurd he HRE.out
theorem str_any (R : Ro) (rok : RoOk R) (rv : Value) (g : Nat → Value) (sk : Int) (w : World) (hd : Deb w) (hr : RoRd w rv g R) :
    Calls Tryd.prog 27 #[.agg #[.int .i64 R.tracks, rv], .int .i64 sk] w (RoEnds (strP R sk) w) := by
  by_cases h : sk < 0 ∨ 10 < sk ∨ R.tracks < 2 + 2 * sk ∨ 128 < R.tracks
  · exact str_bad R rok rv g sk w hr (.inl h)
  · by_cases h2 : rollErr R false = 0
    · exact str_good R rok rv g sk w hd hr h2 (by omega) (by omega) (by omega)
    · exact str_bad R rok rv g sk w hr (.inr h2)
end Go.Proofs.YtppccacfdpkkgaaDoor
