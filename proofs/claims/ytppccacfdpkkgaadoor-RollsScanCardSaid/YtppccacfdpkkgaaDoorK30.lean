/-
  CONTRACTS: the reference's Scan.
-/
import Derived.Test.YtppccacfdpkkgaaDoorK27
import Derived.Test.YtppccacfdpkkgaaDoorK28
namespace Go.Proofs.YtppccacfdpkkgaaDoor
open Go.RowKit
/-- A roll in a box that is filled with rows. -/
structure FrInv (K : Int) (rf : Nat → List Int) (w wr : World) (OB i : Nat) (V : Value) (vs : List Value) : Prop where
  x : ∀ cs, cs = #[Value.int .i64 K, V] → Blk wr OB 24 cs
  len : vs.length = i
  out : wr.ownsRow w.heap.size 32 1 V i vs
  row : ∀ j (hj : j < vs.length), wr.ownsRow w.heap.size 3 1 vs[j] (rf j).length (iCs (rf j))
  ob : w.heap.size ≤ OB
  b : Below w.heap.size w wr
theorem FrInv.below {K : Int} {rf : Nat → List Int} {w wr w' : World} {OB i : Nat} {V : Value} {vs : List Value} (h : FrInv K rf w wr OB i V vs) (hb : Below wr.heap.size wr w') : FrInv K rf w w' OB i V vs :=
  ⟨fun cs e => (h.x cs e).below hb, h.len, row_later h.out hb, fun j hj => row_later (h.row j hj) hb, h.ob, below_step h.b hb⟩
theorem fr_start (K : Int) (rf : Nat → List Int) (w : World) : FrInv K rf w (w.alloc (.cells #[.int .i64 K, .slice none 0 0] 24)) w.heap.size 0 (.slice none 0 0) [] :=
  ⟨fun cs e => by rw [e]; exact Blk.new w _ _, rfl, World.ownsRow_nil _ _ _ _, fun j hj => absurd hj (Nat.not_lt_zero j), Nat.le_refl _, (Below.refl _ _).alloc (Nat.le_refl _) _⟩
theorem FrInv.app {K : Int} {rf : Nat → List Int} {w wr w3 : World} {OB i : Nat} {V u : Value} {vs : List Value} (h : FrInv K rf w wr OB i V vs) (hu : wr.ownsRow w.heap.size 3 1 u (rf i).length (iCs (rf i))) (o : Obj) (V' : Value)
    (hg : (wr.alloc o).grownBy w3 V.ownBlock) (hown : w3.ownsRow w.heap.size 32 1 V' (i + 1) (vs ++ [u])) :
    w3.cell? ⟨OB, 1, none⟩ = some V ∧ w3.frozen? ⟨OB, 1, none⟩ = false ∧ RowKit.Hid (FrInv K rf w (w3.setCell ⟨OB, 1, none⟩ V') OB (i + 1) V' (vs ++ [u])) := by
  have hal : Below wr.heap.size wr (wr.alloc o) := (Below.refl wr.heap.size wr).alloc (Nat.le_refl _) o
  have h0 := h.below hal
  have hx0 := h0.x _ rfl
  have hu0 := row_later hu hal
  have kx := hx0.grown hg (blk_ne_row hx0 h0.out (by decide))
  have hs1 := set_grown w3 OB 1 V'
  have rows3 : ∀ j (hj : j < (vs ++ [u]).length), w3.ownsRow w.heap.size 3 1 (vs ++ [u])[j] (rf j).length (iCs (rf j)) := by
    intro j hj
    rw [List.length_append, List.length_singleton] at hj
    by_cases e : j < vs.length
    · rw [List.getElem_append_left e]
      exact (h0.row j e).kept hg (rows_apart (h0.row j e) h0.out (by decide))
    · have e2 : j = vs.length := by omega
      subst e2
      rw [List.getElem_append_right (Nat.le_refl _)]
      simp only [Nat.sub_self, List.getElem_singleton]
      rw [h.len]
      exact hu0.kept hg (rows_apart hu0 h0.out (by decide))
  have hb3 : Below w.heap.size w w3 := h0.b.grown hg h0.b.size (fun j e => row_ge h0.out e)
  refine ⟨kx.cell 1, kx.frozen 1, Lib.hid ⟨fun cs e => ?_, by rw [List.length_append, List.length_singleton, h.len], ?_, fun j hj => ?_, h.ob, hb3.grown hs1 hb3.size (fun j e => by cases e; exact h.ob)⟩⟩
  · rw [e]
    exact kx.set 1 V'
  · exact hown.kept hs1 (.inr (blk_ne_row kx hown (by decide)))
  · exact (rows3 j hj).kept hs1 (.inr (blk_ne_row kx (rows3 j hj) (by decide)))
theorem FrInv.rd {K : Int} {rf : Nat → List Int} {w F : World} {n : Nat} {V : Value} {vs : List Value} (hlen : vs.length = n) (hV : F.ownsRow w.heap.size 32 1 V n vs) (hrow : ∀ j (hj : j < vs.length), F.ownsRow w.heap.size 3 1 vs[j] (rf j).length (iCs (rf j))) :
    RoRd F V (fun i => vs.getD i (.slice none 0 0)) ⟨K, (List.range n).map rf⟩ := by
  have hrows : (((List.range n).map rf).mapIdx fun i _ => [vs.getD i (.slice none 0 0)]) = vs.map vC := by
    apply List.ext_getElem
    · simp [hlen]
    · intro i h1 h2
      rw [List.length_map] at h2
      simp [vC, List.getElem?_eq_getElem h2]
  refine ⟨?_, fun i hi => ?_⟩
  · show ARd F V 1 (((List.range n).map rf).mapIdx fun i _ => [vs.getD i (.slice none 0 0)])
    rw [hrows]
    refine ARd.of_row (base := w.heap.size) (t := 32) (fun r hr => ?_) ?_
    · obtain ⟨p, _, rfl⟩ := List.mem_map.1 hr; rfl
    · rw [List.length_map, hlen, show (vs.map vC).flatten = vs from flat_one vs]
      exact hV
  · have hi2 : i < vs.length := by rw [hlen]; simpa using hi
    rw [getD_at hi2]
    simp only [List.getElem_map, List.getElem_range]
    exact ARd.of_ints (hrow i hi2)
/-- The box is full: what is stored into an older one reads as the roll. -/
theorem FrInv.fin {K : Int} {rf : Nat → List Int} {w wr : World} {OB i n : Nat} {V : Value} {vs : List Value} (h : FrInv K rf w wr OB i V vs) (hi : i = n) {B : Nat} (hB : B < w.heap.size) {a c : Value} :
    RoRd ((wr.setCell ⟨B, 0, none⟩ a).setCell ⟨B, 1, none⟩ c) V (fun i => vs.getD i (.slice none 0 0)) ⟨K, (List.range n).map rf⟩ := by
  subst hi
  have hg : wr.grownBy ((wr.setCell ⟨B, 0, none⟩ a).setCell ⟨B, 1, none⟩ c) (some B) := (set_grown wr B 0 a).trans (set_grown _ B 1 c)
  have hs := sameFrom_grown hB hg
  exact FrInv.rd h.len (hs.row h.out) (fun j hj => hs.row (h.row j hj))
theorem take_map_next {l : List Int} {f : Int → Int} {k : Nat} (hk : k < l.length) : (l.map f).take (k + 1) = (l.map f).take k ++ [f l[k]] := by
  rw [take_next (by simpa using hk), List.getElem_map]
set_option maxRecDepth 100000 in
set_option maxHeartbeats 12800000 in
theorem rscan_good (R : Ro) (rok : RoOk R) (rv : Value) (g : Nat → Value) (sh : List Int) (vs : Value) (sk : Int) (w : World) (hr : RoRd w rv g R) (hsh : ARd w vs 1 (sh.map iC))
    (he : rollErr R true = 0) (h1 : 0 ≤ sk) (h2 : sk ≤ 10) (hl : sh.length = R.rows.length) :
    Calls Tryd.prog 26 #[.agg #[.int .i64 R.tracks, rv], vs, .int .i64 sk] w (RoEnds (scanP R sh sk) w) := by
  have hb0 : Below w.heap.size w ((w.alloc (.cells #[.int .i64 R.tracks, rv] 24)).alloc zRoll) := (((Below.refl w.heap.size w).alloc (Nat.le_refl _) _).alloc (by simp) _)
  have k1 := (Blk.new w 24 #[.int .i64 R.tracks, rv]).alloc zRoll
  have k2 := Blk.new (w.alloc (.cells #[.int .i64 R.tracks, rv] 24)) 24 #[.int .i64 0, .slice none 0 0]
  rw [World.size_alloc] at k2
  obtain ⟨sa, sc, hvs⟩ := hsh.intForm
  rw [hl] at hvs
  subst hvs
  have HR := Lib.hid hr
  have HO := Lib.hid rok
  have HG := Lib.hid (rollGood he)
  have HRE := Lib.hid he
  have HSH := Lib.hid hsh
  have HL := Lib.hid hl
  have HB0 := Lib.hid hb0
  have HX0 := Lib.hid k1
  have HY0 := Lib.hid k2
  obtain ⟨av, cv, rfl⟩ := hr.form
  have hn2 := (rollGood he).len
  have ht2 := (rollGood he).lo
  have ht3 := (rollGood he).hi
  clear hr rok hb0 k1 k2 he hsh hl
  go_enter Tryd.func26, Tryd.ntmps26
  go_wp2_with fail
  generalize ((w.alloc (.cells #[.int .i64 R.tracks, .slice av R.rows.length cv] 24)).alloc zRoll) = W0 at *
  refine (rcheck_roll R HO.out _ g _ (HR.out.later HB0.out)).mono ?_
  rintro e W1 ⟨rfl, hb1⟩
  have HB1 := Lib.hid (below_step HB0.out hb1)
  have HX1 := Lib.hid (HX0.out.below hb1)
  have HY1 := Lib.hid (HY0.out.below hb1)
  have x0 := HX1.out.cell 0
  have x1 := HX1.out.cell 1
  have z0 := HY1.out.cell 0
  have z1 := HY1.out.cell 1
  have g0 := HY1.out.frozen 0
  have g1 := HY1.out.frozen 1
  clear hb1 HB0 HX0 HY0
  rw [HRE.out]
  go_wp2
  go_loop [9] (fun x => ∃ i : Nat, i ≤ R.rows.length ∧ x = .int .i64 i ∧ RowKit.Hid (∀ j (hj : j < sh.length), j < i → -sk ≤ sh[j] ∧ sh[j] ≤ sk)) (fun x => R.rows.length - (intOf x).toNat)
  case atStart => exact ⟨0, Nat.zero_le _, rfl, Lib.hid (fun j _ h => absurd h (Nat.not_lt_zero j))⟩
  obtain ⟨i, hi, rfl, hS⟩ := hrel
  by_cases hlt : i < R.rows.length
  · have hi2 : (i : Int) < (R.rows.length : Int) := by omega
    have hil : i < sh.length := by rw [HL.out]; exact hlt
    obtain ⟨b, o, c, esv, hbl, hcl⟩ := HSH.out.intAt i hil
    simp only [Value.slice.injEq] at esv
    obtain ⟨rfl, -, rfl⟩ := esv
    obtain ⟨s, hs⟩ : ∃ s, sh[i] = s := ⟨_, rfl⟩
    rw [hs] at hcl
    have s0 := (HB1.out.cell (p := ⟨b, o + i, none⟩) hbl).trans hcl
    have HS := Lib.hid hs
    clear hcl hbl hs
    by_cases hin : -sk ≤ s ∧ s ≤ sk
    · obtain ⟨hs1, hs2⟩ := hin
      have hs3 : ¬ s < -sk := by omega
      have hs4 : ¬ sk < s := by omega
      have HS2 : RowKit.Hid (∀ j (hj : j < sh.length), j < i + 1 → -sk ≤ sh[j] ∧ sh[j] ≤ sk) := Lib.hid fun j hj hlt2 => by
        by_cases e : j = i
        · subst e; rw [HS.out]; exact ⟨hs1, hs2⟩
        · exact hS.out j hj (by omega)
      go_wp2
      go_round
      case rel => exact ⟨i + 1, by omega, by go_num, HS2⟩
      case measure => simp [intOf]; omega
    · have HBAD := Lib.hid (scanP_range (R := R) (sh := sh) (sk := sk) HRE.out (by omega) HL.out (.inl ⟨s, by rw [← HS.out]; exact List.getElem_mem hil, by omega⟩))
      have HZ := Lib.hid ((HY1.out.set 0 (.int .i64 0)).set 1 (.slice none 0 0))
      have HB5 := Lib.hid ((HB1.out.setCell (p := ⟨w.heap.size + 1, 0, none⟩) (by simp only; omega) (.int .i64 0)).setCell (p := ⟨w.heap.size + 1, 1, none⟩) (by simp only; omega) (.slice none 0 0))
      have hin2 : -sk ≤ s → ¬ s ≤ sk := fun h1 h2 => hin ⟨h1, h2⟩
      clear hin
      go_wp2_with fail
      all_goals first
        | (exfalso; omega)
        | (have c0 := HZ.out.cell 0; have c1 := HZ.out.cell 1; exact bodyPost_ret (v := .tuple #[.agg #[.int .i64 0, .slice none 0 0], .int .i64 7]) (by simp [results, Tryd.results26, go_sem, c0, c1]) rfl (roEnds_bad HBAD.out HB5.out))
  · have hi2 : ¬ (i : Int) < (R.rows.length : Int) := by omega
    have HIN := Lib.hid (show ∀ j (hj : j < sh.length), -sk ≤ sh[j] ∧ sh[j] ≤ sk from fun j hj => hS.out j hj (by rw [HL.out] at hj; omega))
    by_cases h128 : 128 < R.tracks + 2 * sk
    · have HBAD := Lib.hid (scanP_range (R := R) (sh := sh) (sk := sk) HRE.out (by omega) HL.out (.inr h128))
      have HZ := Lib.hid ((HY1.out.set 0 (.int .i64 0)).set 1 (.slice none 0 0))
      have HB5 := Lib.hid ((HB1.out.setCell (p := ⟨w.heap.size + 1, 0, none⟩) (by simp only; omega) (.int .i64 0)).setCell (p := ⟨w.heap.size + 1, 1, none⟩) (by simp only; omega) (.slice none 0 0))
      go_wp2
      have c0 := HZ.out.cell 0
      have c1 := HZ.out.cell 1
      exact bodyPost_ret (v := .tuple #[.agg #[.int .i64 0, .slice none 0 0], .int .i64 7]) (by simp [results, Tryd.results26, go_sem, c0, c1]) rfl (roEnds_bad HBAD.out HB5.out)
    · have HGOOD := Lib.hid (scanP_good (R := R) (sh := sh) (sk := sk) HRE.out (by omega) HL.out (fun h => h.elim (fun ⟨k, hk, h3⟩ => by
        obtain ⟨j, hj, rfl⟩ := List.getElem_of_mem hk
        have := HIN.out j hj
        omega) h128))
      have HI0 := Lib.hid (fr_start (R.tracks + 2 * sk) (fun i => (R.rows.getD i []).map (· + (sk + sh.getD i 0))) W1)
      clear hS hi hi2
      have hlow : w.heap.size + 1 < W1.heap.size := HY1.out.lt
      obtain ⟨i0, hi0, hz0, hz1, hz2⟩ := info_parts int_info
      obtain ⟨j0, hj0, jz0, jz1, jz2⟩ := info_parts ints_info
      go_wp2
      clear x0 x1 z0 z1 g0 g1
      go_loopw [11] (fun y wr => ∃ (i : Nat) (V : Value) (vs : List Value), i ≤ R.rows.length ∧ y = .int .i64 i ∧ RowKit.Hid (FrInv (R.tracks + 2 * sk) (fun i => (R.rows.getD i []).map (· + (sk + sh.getD i 0))) W1 wr W1.heap.size i V vs)) (fun y _ => R.rows.length - (intOf y).toNat)
      case atStart => exact ⟨0, _, [], Nat.zero_le _, rfl, HI0⟩
      clear HI0
      obtain ⟨i, V, vs, hi, rfl, hI⟩ := hrel
      rename World => Wi
      have HWi := Lib.hid (below_step HB1.out hI.out.b)
      have y1 : Wi.cell? ⟨w.heap.size, 1, none⟩ = some (.slice av R.rows.length cv) := (HX1.out.below hI.out.b).cell 1
      by_cases hlt : i < R.rows.length
      · have hi2 : (i : Int) < (R.rows.length : Int) := by omega
        have hil : i < sh.length := by rw [HL.out]; exact hlt
        obtain ⟨b, o, c, a2, c2, ev, hbl, hc0, hrow2⟩ := HR.out.at i hlt
        have hc := (HWi.out.cell (p := ⟨b, o + i, none⟩) hbl).trans hc0
        cases ev
        obtain ⟨sb, so, sc', esv, hsl, hscl⟩ := HSH.out.intAt i hil
        simp only [Value.slice.injEq] at esv
        obtain ⟨rfl, -, rfl⟩ := esv
        obtain ⟨s, hs⟩ : ∃ s, sh[i] = s := ⟨_, rfl⟩
        rw [hs] at hscl
        have s0 := (HWi.out.cell (p := ⟨sb, so + i, none⟩) hsl).trans hscl
        obtain ⟨hs1, hs2⟩ := HIN.out i hil
        rw [hs] at hs1 hs2
        obtain ⟨l, hll0⟩ := any_eq R.rows[i]
        obtain ⟨ha1, ha2, _⟩ := good_row HG.out hlt
        rw [hll0] at hc hrow2 ha1
        have HROW := Lib.hid (hrow2.later HWi.out)
        have HA1 := Lib.hid ha1
        have hll : l.length ≤ 1000 := HO.out.row hn2 _ (by rw [← hll0]; exact List.getElem_mem hlt)
        have HRF := Lib.hid (show (R.rows.getD i []).map (· + (sk + sh.getD i 0)) = l.map (· + (sk + s)) by rw [getD_at hlt, hll0, getD_at hil, hs])
        have hsz := hI.out.b.size
        clear hscl hsl hs hc0 hrow2 ha1 ha2 hll0
        go_wp2
        go_loopw [12, 13] (fun u x wr => ∃ (k : Nat), k ≤ l.length ∧ x = .int .i64 k ∧ RowKit.Hid (wr.ownsRow Wi.heap.size 3 1 u k (iCs ((l.map (· + (sk + s))).take k))) ∧ RowKit.Hid (Below Wi.heap.size Wi wr)) (fun _ x _ => l.length - (intOf x).toNat)
        case atStart => exact ⟨0, Nat.zero_le _, rfl, Lib.hid (World.ownsRow_nil _ _ _ _), Lib.hid (Below.refl _ _)⟩
        obtain ⟨k, hk, rfl, hrow, hW2⟩ := hrel
        have hsz2 := hW2.out.size
        have y2 := (hW2.out.cell (cell_size y1)).trans y1
        have hc3 := (hW2.out.cell (cell_size hc)).trans hc
        have s3 := (hW2.out.cell (cell_size s0)).trans s0
        by_cases hkl : k < l.length
        · have hkl2 : (k : Int) < (l.length : Int) := by omega
          obtain ⟨lb, lo, lc, elv, hlb, hlc⟩ := (HROW.out.later hW2.out).intAt k hkl
          cases elv
          obtain ⟨q, hq⟩ : ∃ q, l[k] = q := ⟨_, rfl⟩
          rw [hq] at hlc
          obtain ⟨hq0, hq1⟩ := HA1.out q (by rw [← hq]; exact List.getElem_mem hkl)
          have HTK := Lib.hid (show iCs ((l.map (· + (sk + s))).take (k + 1)) = iCs ((l.map (· + (sk + s))).take k) ++ [.int .i64 (q + sk + s)] by rw [take_map_next hkl, iCs_snoc, hq, Int.add_assoc])
          have HPL := Lib.hid (fun (o : Obj) (w3 : World) (hg : (wr.alloc o).grownBy w3 u12.ownBlock) => push_low hW2.out hrow.out hg)
          have hwr1 : IntKind.i64.wrap (q + sk) = q + sk := IntWalk.i64_in _ (by omega)
          have hwr2 : IntKind.i64.wrap (q + sk + s) = q + sk + s := IntWalk.i64_in _ (by omega)
          clear hq hlb y1 hc s0
          go_wp2_with fail
          go_region_law ((refine step_append_lies _ rfl _ _ 32 rfl Wi.heap.size 3 i0 _ 1 8 Tryd.underlying32 hi0 hz0 hz1 hz2 rfl (by omega) _ _ _ rfl (hrow.out.alloc _) ⟨wr.heap.size, 0, none⟩ 1 1 [.int .i64 (q + sk + s)] rfl rfl (World.news_of_block (cs := #[.int .i64 (q + sk + s)]) (t := 3) (fr := (0, 0)) (heap_alloc_new wr _)) (by simp [Value.oneCell']) (by omega) (by unfold maxLen; omega) (by omega) (by simp; omega) (wr.heap.size + 1) (by simp) ?_; intro gg cap3 w3 hown3 hgrow hat3 hlt3; have HP3 := Lib.hid hown3; have HB3 := Lib.hid (HPL.out _ _ ⟨hgrow.os, hgrow.tape, hgrow.output, hgrow.size, hgrow.block⟩)))
          all_goals
            clear hown3 hgrow hat3 hlt3
            go_wp2
            go_roundw
            case rel => exact ⟨k + 1, by omega, by go_num, by rw [HTK.out]; exact HP3, HB3⟩
            case measure => simp [intOf]; omega
        · have hkl2 : ¬ (k : Int) < (l.length : Int) := by omega
          have hke : k = l.length := by omega
          have HI2 := Lib.hid (hI.out.below hW2.out)
          have HU : RowKit.Hid (wr.ownsRow W1.heap.size 3 1 u12 ((R.rows.getD i []).map (· + (sk + sh.getD i 0))).length (iCs ((R.rows.getD i []).map (· + (sk + sh.getD i 0))))) := by
            have h := hrow.out
            rw [hke, List.take_of_length_le (by simp)] at h
            rw [HRF.out, List.length_map]
            exact Lib.hid (row_base h hsz)
          clear hrow hke
          obtain ⟨ua, uc, eu⟩ := own_form HU.out
          obtain ⟨m, hm⟩ := any_eq ((R.rows.getD i []).map (· + (sk + sh.getD i 0))).length
          rw [hm] at eu
          subst eu
          obtain ⟨va, vc, eV⟩ := own_form HI2.out.out
          subst eV
          have HOUT := Lib.hid HI2.out.out
          have z1 := (HI2.out.x _ rfl).cell 1
          have hsz3 := HI2.out.b.size
          have HAP := Lib.hid (fun (o : Obj) (w3 : World) (V' : Value) => HI2.out.app (w3 := w3) HU.out o V')
          clear hm y1 hc s0
          go_wp2_with (at_builtin; refine wpList_append_lies _ rfl _ _ 22 rfl W1.heap.size 32 j0 _ 1 24 Tryd.underlying22 hj0 jz0 jz1 jz2 rfl (by omega) _ _ _ rfl (HOUT.out.alloc _) ⟨wr.heap.size, 0, none⟩ 1 1 [.slice ua m uc] rfl rfl (World.news_of_block (cs := #[.slice ua m uc]) (t := 32) (fr := (0, 0)) (heap_alloc_new wr _)) (by simp [Value.oneCell']) (by omega) (by unfold maxLen; omega) (by omega) (by simp; omega) (wr.heap.size + 1) (by simp) ?_; intro gg cap3 w3 hown3 hgrow hat3 hlt3; obtain ⟨s1, s2, HI3⟩ := HAP.out _ _ _ hgrow hown3; clear hown3 hgrow hat3 hlt3)
          go_roundw
          case rel => exact ⟨i + 1, _, _, by omega, by go_num, HI3⟩
          case measure => simp [intOf]; omega
      · have hi2 : ¬ (i : Int) < (R.rows.length : Int) := by omega
        have hie : i = R.rows.length := by omega
        obtain ⟨va, vc, eV⟩ := own_form hI.out.out
        subst eV
        have c0 := (hI.out.x _ rfl).cell 0
        have c1 := (hI.out.x _ rfl).cell 1
        have HYi := Lib.hid (HY1.out.below hI.out.b)
        have z0 := HYi.out.cell 0
        have z1 := HYi.out.cell 1
        have g0 := HYi.out.frozen 0
        have g1 := HYi.out.frozen 1
        have HRD := Lib.hid (fun a c => hI.out.fin hie hlow (a := a) (c := c))
        have HZ := Lib.hid ((HYi.out.set 0 (.int .i64 (R.tracks + 2 * sk))).set 1 (.slice va i vc))
        have HB5 := Lib.hid ((HWi.out.setCell (p := ⟨w.heap.size + 1, 0, none⟩) (by simp only; omega) (.int .i64 (R.tracks + 2 * sk))).setCell (p := ⟨w.heap.size + 1, 1, none⟩) (by simp only; omega) (.slice va i vc))
        clear hie
        go_wp2
        have d0 := HZ.out.cell 0
        have d1 := HZ.out.cell 1
        refine bodyPost_ret (v := .tuple #[.agg #[.int .i64 (R.tracks + 2 * sk), .slice va i vc], .int .i64 0]) (by simp [results, Tryd.results26, go_sem, d0, d1]) rfl ?_
        rw [HGOOD.out]
        exact ⟨_, _, rfl, HRD.out _ _, HB5.out⟩
set_option maxRecDepth 100000 in
set_option maxHeartbeats 3200000 in
theorem rscan_bad (R : Ro) (rok : RoOk R) (rv : Value) (g : Nat → Value) (sh : List Int) (vs : Value) (sk : Int) (w : World) (hr : RoRd w rv g R) (hsh : ARd w vs 1 (sh.map iC))
    (hne : rollErr R true ≠ 0 ∨ (sk < 0 ∨ 10 < sk) ∨ sh.length ≠ R.rows.length) :
    Calls Tryd.prog 26 #[.agg #[.int .i64 R.tracks, rv], vs, .int .i64 sk] w (RoEnds (scanP R sh sk) w) := by
  have hb0 : Below w.heap.size w ((w.alloc (.cells #[.int .i64 R.tracks, rv] 24)).alloc zRoll) := (((Below.refl w.heap.size w).alloc (Nat.le_refl _) _).alloc (by simp) _)
  have k1 := (Blk.new w 24 #[.int .i64 R.tracks, rv]).alloc zRoll
  have k2 := Blk.new (w.alloc (.cells #[.int .i64 R.tracks, rv] 24)) 24 #[.int .i64 0, .slice none 0 0]
  rw [World.size_alloc] at k2
  obtain ⟨sa, sc, rfl⟩ := hsh.intForm
  have HR := Lib.hid hr
  have HO := Lib.hid rok
  have HNE := Lib.hid hne
  have HB0 := Lib.hid hb0
  have HX0 := Lib.hid k1
  have HY0 := Lib.hid k2
  obtain ⟨av, cv, rfl⟩ := hr.form
  clear hr rok hb0 k1 k2 hne hsh
  go_enter Tryd.func26, Tryd.ntmps26
  go_wp2_with fail
  generalize ((w.alloc (.cells #[.int .i64 R.tracks, .slice av R.rows.length cv] 24)).alloc zRoll) = W0 at *
  refine (rcheck_roll R HO.out _ g _ (HR.out.later HB0.out)).mono ?_
  rintro e W1 ⟨rfl, hb1⟩
  have HB1 := Lib.hid (below_step HB0.out hb1)
  have HX1 := Lib.hid (HX0.out.below hb1)
  have HY1 := Lib.hid (HY0.out.below hb1)
  have x1 := HX1.out.cell 1
  have z0 := HY1.out.cell 0
  have z1 := HY1.out.cell 1
  have g0 := HY1.out.frozen 0
  have g1 := HY1.out.frozen 1
  have HZ := Lib.hid ((HY1.out.set 0 (.int .i64 0)).set 1 (.slice none 0 0))
  have HB5 := Lib.hid ((HB1.out.setCell (p := ⟨w.heap.size + 1, 0, none⟩) (by simp only; omega) (.int .i64 0)).setCell (p := ⟨w.heap.size + 1, 1, none⟩) (by simp only; omega) (.slice none 0 0))
  clear hb1 HB0 HX0 HY0
  obtain ⟨er, her⟩ : ∃ er, rollErr R true = er := ⟨_, rfl⟩
  rw [her]
  by_cases he : er = 0
  · subst he
    have HRE := Lib.hid her
    have hne2 := HNE.out.resolve_left (fun h => h her)
    clear her
    by_cases hsk : sk < 0 ∨ 10 < sk
    · have HQ := Lib.hid (scanP_skew (sh := sh) HRE.out hsk)
      have hsk2 : 0 ≤ sk → ¬ sk ≤ 10 := by omega
      clear hsk hne2
      go_wp2_with fail
      all_goals first
        | (exfalso; omega)
        | (have c0 := HZ.out.cell 0; have c1 := HZ.out.cell 1; exact bodyPost_ret (v := .tuple #[.agg #[.int .i64 0, .slice none 0 0], .int .i64 7]) (by simp [results, Tryd.results26, go_sem, c0, c1]) rfl (roEnds_bad HQ.out HB5.out))
    · have hsn := hne2.resolve_left hsk
      have HQ := Lib.hid (scanP_len HRE.out hsk hsn)
      have hs1 : ¬ sk < 0 := fun h => hsk (.inl h)
      have hs2 : ¬ 10 < sk := fun h => hsk (.inr h)
      have hq1 : ((sh.length : Int) == (R.rows.length : Int)) = false := by rw [beq_eq_false_iff_ne]; omega
      have hq2 : ¬ (sh.length : Int) = (R.rows.length : Int) := by omega
      clear hsk hne2 hsn
      go_wp2
      have c0 := HZ.out.cell 0
      have c1 := HZ.out.cell 1
      exact bodyPost_ret (v := .tuple #[.agg #[.int .i64 0, .slice none 0 0], .int .i64 2]) (by simp [results, Tryd.results26, go_sem, c0, c1]) rfl (roEnds_bad HQ.out HB5.out)
  · have HQ := Lib.hid (show scanP R sh sk = (⟨0, []⟩, er) by rw [← her]; exact scanP_roll (by rw [her]; exact he))
    have he2 : (er == 0) = false := by rw [beq_eq_false_iff_ne]; exact he
    clear her
    go_wp2
    have c0 := HZ.out.cell 0
    have c1 := HZ.out.cell 1
    exact bodyPost_ret (v := .tuple #[.agg #[.int .i64 0, .slice none 0 0], .int .i64 er]) (by simp [results, Tryd.results26, go_sem, c0, c1]) rfl (roEnds_bad HQ.out HB5.out)
theorem rscan_any (R : Ro) (rok : RoOk R) (rv : Value) (g : Nat → Value) (sh : List Int) (vs : Value) (sk : Int) (w : World) (hr : RoRd w rv g R) (hsh : ARd w vs 1 (sh.map iC)) :
    Calls Tryd.prog 26 #[.agg #[.int .i64 R.tracks, rv], vs, .int .i64 sk] w (RoEnds (scanP R sh sk) w) := by
  by_cases h1 : rollErr R true = 0
  · by_cases h2 : sk < 0 ∨ 10 < sk
    · exact rscan_bad R rok rv g sh vs sk w hr hsh (.inr (.inl h2))
    · by_cases h3 : sh.length = R.rows.length
      · exact rscan_good R rok rv g sh vs sk w hr hsh h1 (by omega) (by omega) h3
      · exact rscan_bad R rok rv g sh vs sk w hr hsh (.inr (.inr h3))
  · exact rscan_bad R rok rv g sh vs sk w hr hsh (.inl h1)
end Go.Proofs.YtppccacfdpkkgaaDoor
