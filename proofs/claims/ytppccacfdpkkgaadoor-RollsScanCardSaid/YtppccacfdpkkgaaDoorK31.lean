/-
  CONTRACTS: the reference's Straighten.
-/
import Derived.Test.YtppccacfdpkkgaaDoorK29
import Derived.Test.YtppccacfdpkkgaaDoorK30
namespace Go.Proofs.YtppccacfdpkkgaaDoor
open Go.RowKit
theorem strF_zero (l : List Int) (d : Int) : told (strF l d) 1 = [0] := by
  show [] ++ (if strF l d 0 then [((0 : Nat) : Int)] else []) = [0]
  rw [if_pos (by unfold strF; exact decide_eq_true (.inl rfl))]
  rfl
theorem strF_next (l : List Int) (d : Int) {t : Nat} (ht : 1 ≤ t) : told (strF l d) (t + 1) = told (strF l d) t ++ if decide ((t : Int) + d ∈ l) then [(t : Int)] else [] := by
  show told (strF l d) t ++ (if strF l d t then [(t : Int)] else []) = _
  have : strF l d t = decide ((t : Int) + d ∈ l) := by
    unfold strF
    exact decide_eq_decide.2 ⟨fun q => q.resolve_left (by omega), .inr⟩
  rw [this]
set_option maxRecDepth 100000 in
set_option maxHeartbeats 12800000 in
theorem rstr_good (R : Ro) (rok : RoOk R) (rv : Value) (g : Nat → Value) (sk : Int) (w : World) (hr : RoRd w rv g R)
    (he : rollErr R false = 0) (h1 : 0 ≤ sk) (h2 : sk ≤ 10) (h3 : 2 + 2 * sk ≤ R.tracks) :
    Calls Tryd.prog 28 #[.agg #[.int .i64 R.tracks, rv], .int .i64 sk] w (RoEnds (strP R sk) w) := by
  have hb0 : Below w.heap.size w ((w.alloc (.cells #[.int .i64 R.tracks, rv] 24)).alloc zRoll) := (((Below.refl w.heap.size w).alloc (Nat.le_refl _) _).alloc (by simp) _)
  have k1 := (Blk.new w 24 #[.int .i64 R.tracks, rv]).alloc zRoll
  have k2 := Blk.new (w.alloc (.cells #[.int .i64 R.tracks, rv] 24)) 24 #[.int .i64 0, .slice none 0 0]
  rw [World.size_alloc] at k2
  have HR := Lib.hid hr
  have HO := Lib.hid rok
  have HG := Lib.hid (rollGood he)
  have HRE := Lib.hid he
  have HB0 := Lib.hid hb0
  have HX0 := Lib.hid k1
  have HY0 := Lib.hid k2
  obtain ⟨av, cv, rfl⟩ := hr.form
  have hn2 := (rollGood he).len
  have ht3 := (rollGood he).hi
  have x0 := k1.cell 0
  have x1 := k1.cell 1
  have hwr1 : IntKind.i64.wrap (2 * sk) = 2 * sk := IntWalk.i64_in _ (by omega)
  have hc1 : ¬ R.tracks < 2 + 2 * sk := by omega
  have hc2 : ¬ 128 < R.tracks := by omega
  clear hr rok hb0 k1 k2 he
  go_enter Tryd.func28, Tryd.ntmps28
  go_wp2_with fail
  generalize ((w.alloc (.cells #[.int .i64 R.tracks, .slice av R.rows.length cv] 24)).alloc zRoll) = W0 at *
  refine (rrows_any R false HO.out _ g _ (HR.out.later HB0.out)).mono ?_
  rintro e W1 ⟨rfl, hb1⟩
  rw [HRE.out]
  have HB1 := Lib.hid (below_step HB0.out hb1)
  have HX1 := Lib.hid (HX0.out.below hb1)
  have HY1 := Lib.hid (HY0.out.below hb1)
  have hlow : w.heap.size + 1 < W1.heap.size := HY1.out.lt
  clear hb1 HB0 HX0 HY0 x0 x1
  have x0 := HX1.out.cell 0
  obtain ⟨n, hnk⟩ : ∃ n : Nat, (n : Int) = R.tracks - 2 * sk := ⟨(R.tracks - 2 * sk).toNat, by omega⟩
  have hn128 : n ≤ 128 := by omega
  have hn0 : 2 ≤ n := by omega
  have HNK := Lib.hid hnk
  have HGOOD := Lib.hid (strP_good (R := R) (sk := sk) (by omega) HRE.out)
  have HI0 := Lib.hid (fr_start (n : Int) (strRow R sk) W1)
  obtain ⟨i0, hi0, hz0, hz1, hz2⟩ := info_parts int_info
  obtain ⟨j0, hj0, jz0, jz1, jz2⟩ := info_parts ints_info
  go_upto_region 7 with fail
  rw [← hnk]
  clear hnk x0
  go_wp2
  go_loopw [8, 9] (fun sv y wr => ∃ (i : Nat) (V : Value) (vs : List Value), i ≤ R.rows.length ∧ sv = .int .i64 (shiftP sk R.rows i) ∧ y = .int .i64 i ∧ RowKit.Hid (FrInv (n : Int) (strRow R sk) W1 wr W1.heap.size i V vs)) (fun _ y _ => R.rows.length - (intOf y).toNat)
  case atStart => exact ⟨0, _, [], Nat.zero_le _, rfl, rfl, HI0⟩
  clear HI0
  obtain ⟨i, V, vs, hi, rfl, rfl, hI⟩ := hrel
  rename World => Wi
  have HWi := Lib.hid (below_step HB1.out hI.out.b)
  have y1 : Wi.cell? ⟨w.heap.size, 1, none⟩ = some (.slice av R.rows.length cv) := (HX1.out.below hI.out.b).cell 1
  obtain ⟨s, hs⟩ : ∃ s, shiftP sk R.rows i = s := ⟨_, rfl⟩
  rw [hs]
  have hsin := shiftP_in h1 (good_all HG.out) i
  rw [hs] at hsin
  obtain ⟨hs1, hs2⟩ := hsin
  have HS := Lib.hid hs
  clear hs
  by_cases hlt : i < R.rows.length
  · have hi2 : (i : Int) < (R.rows.length : Int) := by omega
    obtain ⟨b, o, c, a2, c2, ev, hbl, hc0, hrow2⟩ := HR.out.at i hlt
    have hc := (HWi.out.cell (p := ⟨b, o + i, none⟩) hbl).trans hc0
    cases ev
    obtain ⟨l, hll0⟩ := any_eq R.rows[i]
    obtain ⟨ha1, ha2, _⟩ := good_row HG.out hlt
    rw [hll0] at hc hrow2 ha1
    have HROW := Lib.hid (hrow2.later HWi.out)
    have HA1 := Lib.hid ha1
    have hll : l.length ≤ 1000 := HO.out.row hn2 _ (by rw [← hll0]; exact List.getElem_mem hlt)
    obtain ⟨s', hs'⟩ : ∃ s', shiftP sk R.rows (i + 1) = s' := ⟨_, rfl⟩
    have hsin' := shiftP_in h1 (good_all HG.out) (i + 1)
    have hsn : shiftP sk R.rows (i + 1) = shiftN sk i s l := by rw [shiftP, getD_at hlt, hll0, HS.out]
    rw [hs'] at hsin' hsn
    obtain ⟨hs3, hs4⟩ := hsin'
    have HS' := Lib.hid hs'
    have HSN := Lib.hid hsn
    have HRF := Lib.hid (show strRow R sk i = told (strF l (sk + s')) n by unfold strRow; rw [getD_at hlt, hll0, hs', show (R.tracks - 2 * sk).toNat = n by have := HNK.out; omega])
    have hsz := hI.out.b.size
    clear hs' hsn hc0 hrow2 ha1 ha2 hll0
    go_upto_if 60 with fail
    go_cut [8, 9] from 46 to 115 (fun x8 x9 wx => x8 = .int .i64 s' ∧ x9 = .int .i64 i ∧ wx = Wi)
    case first =>
      have hsn := HSN.out
      cases l with
      | nil =>
        have HE := Lib.hid (show s' = s from hsn)
        clear hsn
        go_wp2
        go_meet
        exact ⟨by rw [HE.out], rfl, rfl⟩
      | cons x m =>
        obtain ⟨lb, lo, lc, elv, hlb, hlc⟩ := HROW.out.intAt 0 (by simp)
        cases elv
        rw [List.getElem_cons_zero, Nat.add_zero] at hlc
        obtain ⟨hx0, hx1⟩ := HA1.out x (by simp)
        have hlen : (0 : Int) < ((x :: m).length : Int) := by simp
        have hg1 : -sk ≤ x - sk := by omega
        clear hlb
        by_cases c1 : x - sk ≤ sk
        · by_cases c2 : i = 0
          · have c3 : ((i : Int) == 0) = true := by rw [beq_iff_eq]; omega
            have HE := Lib.hid (show s' = x - sk by rw [hsn, shiftN, if_pos ⟨c1, .inl c2⟩])
            clear c2 hsn
            go_wp2
            go_meet
            exact ⟨by rw [HE.out], rfl, rfl⟩
          · have c3 : ((i : Int) == 0) = false := by rw [beq_eq_false_iff_ne]; omega
            by_cases c4 : s - 1 ≤ x - sk
            · by_cases c5 : x - sk ≤ s + 1
              · have HE := Lib.hid (show s' = x - sk by rw [hsn, shiftN, if_pos ⟨c1, .inr (by omega)⟩])
                clear c2 hsn
                go_wp2
                go_meet
                exact ⟨by rw [HE.out], rfl, rfl⟩
              · have HE := Lib.hid (show s' = s by rw [hsn, shiftN, if_neg (by omega)])
                clear c2 hsn
                go_wp2
                go_meet
                exact ⟨by rw [HE.out], rfl, rfl⟩
            · have HE := Lib.hid (show s' = s by rw [hsn, shiftN, if_neg (by omega)])
              clear c2 hsn
              go_wp2
              go_meet
              exact ⟨by rw [HE.out], rfl, rfl⟩
        · have HE := Lib.hid (show s' = s by rw [hsn, shiftN, if_neg (by omega)])
          clear hsn
          go_wp2
          go_meet
          exact ⟨by rw [HE.out], rfl, rfl⟩
    case rest =>
      obtain ⟨rfl, rfl, hwc⟩ := hcut
      rw [hwc]
      clear hwc
      have HST := Lib.hid (show (Wi.alloc (.cells #[.int .i64 0] 3)).ownsRow Wi.heap.size 3 1 (.slice (some ⟨Wi.heap.size, 0, none⟩) 1 1) (told (strF l (sk + s')) 1).length (iCs (told (strF l (sk + s')) 1)) by
        rw [strF_zero]
        exact ⟨rfl, .inr ⟨Wi.heap.size, 1, #[.int .i64 0], rfl, Nat.le_refl _, Blk.new _ _ _, Nat.le_refl 1, by unfold maxLen; omega, rfl, rfl⟩⟩)
      have HSB := Lib.hid (show Below Wi.heap.size Wi (Wi.alloc (.cells #[.int .i64 0] 3)) from (Below.refl _ _).alloc (Nat.le_refl _) _)
      go_wp2
      go_loopw [12, 13] (fun u x wr => ∃ (t : Nat), 1 ≤ t ∧ t ≤ n ∧ x = .int .i64 t ∧ RowKit.Hid (wr.ownsRow Wi.heap.size 3 1 u (told (strF l (sk + s')) t).length (iCs (told (strF l (sk + s')) t))) ∧ RowKit.Hid (Below Wi.heap.size Wi wr)) (fun _ x _ => n - (intOf x).toNat)
      case atStart => exact ⟨1, Nat.le_refl _, by omega, rfl, by rw [strF_zero] at HST ⊢; exact HST, HSB⟩
      clear HST HSB
      obtain ⟨t, ht1, htn, rfl, hrow, hW2⟩ := hrel
      have hsz2 := hW2.out.size
      have q0 := ((hI.out.below hW2.out).x _ rfl).cell 0
      by_cases htl : t < n
      · have htl2 : (t : Int) < (n : Int) := by omega
        have hle := told_len (strF l (sk + s')) t
        obtain ⟨bb, hbb⟩ := any_eq (decide ((t : Int) + sk + s' ∈ l))
        have HBB := Lib.hid hbb
        have HNX := Lib.hid (show told (strF l (sk + s')) (t + 1) = told (strF l (sk + s')) t ++ if bb then [(t : Int)] else [] by rw [strF_next _ _ ht1, ← Int.add_assoc, hbb])
        obtain ⟨ua, uc, rfl⟩ := own_form hrow.out
        have HPL := Lib.hid (fun (o : Obj) (w3 : World) (hg : (wr.alloc o).grownBy w3 (Value.slice ua (told (strF l (sk + s')) t).length uc).ownBlock) => push_low hW2.out hrow.out hg)
        clear hbb
        cases bb with
        | false =>
          have HN2 : RowKit.Hid (wr.ownsRow Wi.heap.size 3 1 (.slice ua (told (strF l (sk + s')) t).length uc) (told (strF l (sk + s')) (t + 1)).length (iCs (told (strF l (sk + s')) (t + 1)))) := by
            rw [HNX.out, if_neg (by decide), List.append_nil]
            exact hrow
          clear y1
          go_wp2_with (go_at_call 40; refine (in_any l ((t : Int) + sk + s') _ _ (by omega) (HROW.out.later hW2.out) false HBB.out).mono ?_; rintro e w' ⟨rfl, rfl⟩)
          go_roundw
          case rel => exact ⟨t + 1, by omega, by omega, by go_num, HN2, hW2⟩
          case measure => simp [intOf]; omega
        | true =>
          clear y1
          go_wp2_with first | (go_at_call 40; refine (in_any l ((t : Int) + sk + s') _ _ (by omega) (HROW.out.later hW2.out) true HBB.out).mono ?_; rintro e w' ⟨rfl, rfl⟩) | (at_builtin; refine wpList_append_lies _ rfl _ _ 32 rfl Wi.heap.size 3 i0 _ 1 8 Tryd.underlying32 hi0 hz0 hz1 hz2 rfl (by omega) _ _ _ rfl (hrow.out.alloc _) ⟨wr.heap.size, 0, none⟩ 1 1 [.int .i64 t] rfl rfl (World.news_of_block (cs := #[.int .i64 t]) (t := 3) (fr := (0, 0)) (heap_alloc_new wr _)) (by simp [Value.oneCell']) (by omega) (by unfold maxLen; omega) (by omega) (by simp; omega) (wr.heap.size + 1) (by simp) ?_; intro gg cap3 w3 hown3 hgrow hat3 hlt3)
          have HN2 : RowKit.Hid (w3.ownsRow Wi.heap.size 3 1 (.slice (some ⟨gg, 0, none⟩) ((told (strF l (sk + s')) t).length + 1) cap3) (told (strF l (sk + s')) (t + 1)).length (iCs (told (strF l (sk + s')) (t + 1)))) := by
            rw [HNX.out, if_pos trivial, List.length_append, List.length_singleton, iCs_snoc]
            exact Lib.hid hown3
          have HB3 := Lib.hid (HPL.out _ _ hgrow)
          exact ⟨⟨t + 1, by omega, by omega, by go_num, HN2, HB3⟩, by simp [intOf]; omega⟩
      · have htl2 : ¬ (t : Int) < (n : Int) := by omega
        have hte : t = n := by omega
        have HI2 := Lib.hid (hI.out.below hW2.out)
        have HU : RowKit.Hid (wr.ownsRow W1.heap.size 3 1 u12 (strRow R sk i).length (iCs (strRow R sk i))) := by
          rw [HRF.out, ← hte]
          exact Lib.hid (row_base hrow.out hsz)
        clear hrow hte
        obtain ⟨ua, uc, eu⟩ := own_form HU.out
        obtain ⟨m, hm⟩ := any_eq (strRow R sk i).length
        rw [hm] at eu
        subst eu
        obtain ⟨va, vc, eV⟩ := own_form HI2.out.out
        subst eV
        have HOUT := Lib.hid HI2.out.out
        have z1 := (HI2.out.x _ rfl).cell 1
        have hsz3 := HI2.out.b.size
        have HAP := Lib.hid (fun (o : Obj) (w3 : World) (V' : Value) => HI2.out.app (w3 := w3) HU.out o V')
        clear hm y1 hc
        go_wp2_with (at_builtin; refine wpList_append_lies _ rfl _ _ 22 rfl W1.heap.size 32 j0 _ 1 24 Tryd.underlying22 hj0 jz0 jz1 jz2 rfl (by omega) _ _ _ rfl (HOUT.out.alloc _) ⟨wr.heap.size, 0, none⟩ 1 1 [.slice ua m uc] rfl rfl (World.news_of_block (cs := #[.slice ua m uc]) (t := 32) (fr := (0, 0)) (heap_alloc_new wr _)) (by simp [Value.oneCell']) (by omega) (by unfold maxLen; omega) (by omega) (by simp; omega) (wr.heap.size + 1) (by simp) ?_; intro gg cap3 w3 hown3 hgrow hat3 hlt3; obtain ⟨s1, s2, HI3⟩ := HAP.out _ _ _ hgrow hown3; clear hown3 hgrow hat3 hlt3)
        go_roundw
        case rel => exact ⟨i + 1, _, _, by omega, by rw [HS'.out], by go_num, HI3⟩
        case measure => simp [intOf]; omega
  · have hi2 : ¬ (i : Int) < (R.rows.length : Int) := by omega
    have hie : i = R.rows.length := by omega
    obtain ⟨va, vc, eV⟩ := own_form hI.out.out
    subst eV
    have c0 := (hI.out.x _ rfl).cell 0
    have c1 := (hI.out.x _ rfl).cell 1
    have HYi := Lib.hid (HY1.out.below hI.out.b)
    have z0 := HYi.out.cell 0
    have z1 := HYi.out.cell 1
    have g0 := HYi.out.frozen 0
    have g1 := HYi.out.frozen 1
    have HRD := Lib.hid (fun a c => hI.out.fin hie hlow (a := a) (c := c))
    have HZ := Lib.hid ((HYi.out.set 0 (.int .i64 (n : Int))).set 1 (.slice va i vc))
    have HB5 := Lib.hid ((HWi.out.setCell (p := ⟨w.heap.size + 1, 0, none⟩) (by simp only; omega) (.int .i64 (n : Int))).setCell (p := ⟨w.heap.size + 1, 1, none⟩) (by simp only; omega) (.slice va i vc))
    clear hie
    go_wp2
    have d0 := HZ.out.cell 0
    have d1 := HZ.out.cell 1
    refine bodyPost_ret (v := .tuple #[.agg #[.int .i64 (n : Int), .slice va i vc], .int .i64 0]) (by simp [results, Tryd.results28, go_sem, d0, d1]) rfl ?_
    rw [HGOOD.out]
    have hrd := HRD.out (.int .i64 (n : Int)) (.slice va i vc)
    rw [show (⟨(n : Int), (List.range R.rows.length).map (strRow R sk)⟩ : Ro) = strRo R sk by rw [HNK.out]; rfl] at hrd
    exact ⟨_, _, by rw [HNK.out]; rfl, hrd, HB5.out⟩
set_option maxRecDepth 100000 in
set_option maxHeartbeats 3200000 in
theorem rstr_bad (R : Ro) (rok : RoOk R) (rv : Value) (g : Nat → Value) (sk : Int) (w : World) (hr : RoRd w rv g R)
    (hne : (sk < 0 ∨ 10 < sk ∨ R.tracks < 2 + 2 * sk ∨ 128 < R.tracks) ∨ rollErr R false ≠ 0) :
    Calls Tryd.prog 28 #[.agg #[.int .i64 R.tracks, rv], .int .i64 sk] w (RoEnds (strP R sk) w) := by
  have hb0 : Below w.heap.size w ((w.alloc (.cells #[.int .i64 R.tracks, rv] 24)).alloc zRoll) := (((Below.refl w.heap.size w).alloc (Nat.le_refl _) _).alloc (by simp) _)
  have k1 := (Blk.new w 24 #[.int .i64 R.tracks, rv]).alloc zRoll
  have k2 := Blk.new (w.alloc (.cells #[.int .i64 R.tracks, rv] 24)) 24 #[.int .i64 0, .slice none 0 0]
  rw [World.size_alloc] at k2
  have HR := Lib.hid hr
  have HO := Lib.hid rok
  have HNE := Lib.hid hne
  obtain ⟨av, cv, rfl⟩ := hr.form
  clear hr rok hne
  by_cases hbad : sk < 0 ∨ 10 < sk ∨ R.tracks < 2 + 2 * sk ∨ 128 < R.tracks
  · have HQ := Lib.hid (strP_range hbad)
    have HZ := Lib.hid k2
    have HB5 := Lib.hid hb0
    have z0 := k2.cell 0
    have z1 := k2.cell 1
    have g0 := k2.frozen 0
    have g1 := k2.frozen 1
    have x0 := k1.cell 0
    clear hb0 k1 k2
    by_cases b1 : sk < 0
    · go_enter Tryd.func28, Tryd.ntmps28
      go_wp2
      have c0 := HZ.out.cell 0
      have c1 := HZ.out.cell 1
      exact bodyPost_ret (v := .tuple #[.agg #[.int .i64 0, .slice none 0 0], .int .i64 7]) (by simp [results, Tryd.results28, go_sem, c0, c1]) rfl (roEnds_bad HQ.out HB5.out)
    · by_cases b2 : 10 < sk
      · go_enter Tryd.func28, Tryd.ntmps28
        go_wp2
        have c0 := HZ.out.cell 0
        have c1 := HZ.out.cell 1
        exact bodyPost_ret (v := .tuple #[.agg #[.int .i64 0, .slice none 0 0], .int .i64 7]) (by simp [results, Tryd.results28, go_sem, c0, c1]) rfl (roEnds_bad HQ.out HB5.out)
      · have hwr1 : IntKind.i64.wrap (2 * sk) = 2 * sk := IntWalk.i64_in _ (by omega)
        by_cases b3 : R.tracks < 2 + 2 * sk
        · go_enter Tryd.func28, Tryd.ntmps28
          go_wp2
          have c0 := HZ.out.cell 0
          have c1 := HZ.out.cell 1
          exact bodyPost_ret (v := .tuple #[.agg #[.int .i64 0, .slice none 0 0], .int .i64 7]) (by simp [results, Tryd.results28, go_sem, c0, c1]) rfl (roEnds_bad HQ.out HB5.out)
        · have b4 : 128 < R.tracks := by omega
          go_enter Tryd.func28, Tryd.ntmps28
          go_wp2
          have c0 := HZ.out.cell 0
          have c1 := HZ.out.cell 1
          exact bodyPost_ret (v := .tuple #[.agg #[.int .i64 0, .slice none 0 0], .int .i64 7]) (by simp [results, Tryd.results28, go_sem, c0, c1]) rfl (roEnds_bad HQ.out HB5.out)
  · have hre := HNE.out.resolve_left hbad
    have HQ := Lib.hid (strP_roll hbad hre)
    have HRE := Lib.hid hre
    have b1 : ¬ sk < 0 := by omega
    have b2 : ¬ 10 < sk := by omega
    have b3 : ¬ R.tracks < 2 + 2 * sk := by omega
    have b4 : ¬ 128 < R.tracks := by omega
    have hwr1 : IntKind.i64.wrap (2 * sk) = 2 * sk := IntWalk.i64_in _ (by omega)
    have HB0 := Lib.hid hb0
    have HX0 := Lib.hid k1
    have HY0 := Lib.hid k2
    have x0 := k1.cell 0
    have x1 := k1.cell 1
    clear hb0 k1 k2 hbad hre
    go_enter Tryd.func28, Tryd.ntmps28
    go_wp2_with fail
    generalize ((w.alloc (.cells #[.int .i64 R.tracks, .slice av R.rows.length cv] 24)).alloc zRoll) = W0 at *
    refine (rrows_any R false HO.out _ g _ (HR.out.later HB0.out)).mono ?_
    rintro e W1 ⟨rfl, hb1⟩
    · have hne := HRE.out
      have HB1 := Lib.hid (below_step HB0.out hb1)
      have HY1 := Lib.hid (HY0.out.below hb1)
      have z0 := HY1.out.cell 0
      have z1 := HY1.out.cell 1
      have g0 := HY1.out.frozen 0
      have g1 := HY1.out.frozen 1
      have HZ := Lib.hid ((HY1.out.set 0 (.int .i64 0)).set 1 (.slice none 0 0))
      have HB5 := Lib.hid ((HB1.out.setCell (p := ⟨w.heap.size + 1, 0, none⟩) (by simp only; omega) (.int .i64 0)).setCell (p := ⟨w.heap.size + 1, 1, none⟩) (by simp only; omega) (.slice none 0 0))
      obtain ⟨er, her⟩ : ∃ er, rollErr R false = er := ⟨_, rfl⟩
      rw [her] at hne HQ ⊢
      have he2 : (er == 0) = false := by rw [beq_eq_false_iff_ne]; exact hne
      clear her hb1 x0 x1
      go_wp2
      have c0 := HZ.out.cell 0
      have c1 := HZ.out.cell 1
      exact bodyPost_ret (v := .tuple #[.agg #[.int .i64 0, .slice none 0 0], .int .i64 er]) (by simp [results, Tryd.results28, go_sem, c0, c1]) rfl (roEnds_bad HQ.out HB5.out)
theorem rstr_any (R : Ro) (rok : RoOk R) (rv : Value) (g : Nat → Value) (sk : Int) (w : World) (hr : RoRd w rv g R) :
    Calls Tryd.prog 28 #[.agg #[.int .i64 R.tracks, rv], .int .i64 sk] w (RoEnds (strP R sk) w) := by
  by_cases h : sk < 0 ∨ 10 < sk ∨ R.tracks < 2 + 2 * sk ∨ 128 < R.tracks
  · exact rstr_bad R rok rv g sk w hr (.inl h)
  · by_cases h2 : rollErr R false = 0
    · exact rstr_good R rok rv g sk w hr h2 (by omega) (by omega) (by omega)
    · exact rstr_bad R rok rv g sk w hr (.inr h2)
end Go.Proofs.YtppccacfdpkkgaaDoor
