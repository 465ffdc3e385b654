/-
  CONTRACTS: the reference's with.
-/
import Derived.Test.YtppccacfdpkkgaaGreatDoorK25
namespace Go.Proofs.YtppccacfdpkkgaaGreatDoor
open Go.RowKit
/-- A row with other holes in a track. -/
def wiRow (R : Ro) (k : Nat) (hs : List Bool) (i : Nat) : List Int := told (withF (R.rows.getD i []) k (hs.getD i false)) R.tracks.toNat
def wiRo (R : Ro) (k : Nat) (hs : List Bool) : Ro := ⟨R.tracks, (List.range R.rows.length).map (wiRow R k hs)⟩
theorem withF_next (l : List Int) (k t : Nat) (b : Bool) : told (withF l k b) (t + 1) = told (withF l k b) t ++ if withF l k b t then [(t : Int)] else [] := rfl
/-- Ahead of row i: the rows that are made. -/
structure WiInv (R : Ro) (k : Nat) (hs : List Bool) (w wr : World) (i : Nat) (V : Value) (vs : List Value) : Prop where
  x : ∀ cs, cs = #[Value.int .i64 R.tracks, V] → Blk wr (w.heap.size + 1 + 1) 36 cs
  res : Blk wr (w.heap.size + 1) 36 #[.int .i64 0, .slice none 0 0]
  len : vs.length = i
  out : wr.ownsRow w.heap.size 74 1 V i vs
  row : ∀ j (hj : j < vs.length), wr.ownsRow w.heap.size 3 1 vs[j] (wiRow R k hs j).length (iCs (wiRow R k hs j))
  b : Below w.heap.size w wr
theorem WiInv.below {R : Ro} {k : Nat} {hs : List Bool} {w wr w' : World} {i : Nat} {V : Value} {vs : List Value} (h : WiInv R k hs w wr i V vs) (hb : Below wr.heap.size wr w') : WiInv R k hs w w' i V vs :=
  ⟨fun cs e => (h.x cs e).below hb, h.res.below hb, h.len, row_later h.out hb, fun j hj => row_later (h.row j hj) hb, below_step h.b hb⟩
theorem rows_apart {W : World} {b b' : Nat} {t t' : TypeId} {k k' n n' : Nat} {v v' : Value} {xs xs' : List Value} (h : W.ownsRow b t k v n xs) (h' : W.ownsRow b' t' k' v' n' xs') (ht : t ≠ t') : v.ownBlock = none ∨ v.ownBlock ≠ v'.ownBlock := by
  rcases h.2 with ⟨rfl, _⟩ | ⟨g, cap, cur, rfl, _, hg, _⟩
  · exact .inl rfl
  · exact .inr (fun e => blk_ne_row (show Blk W g t cur from hg) h' ht e.symm)
/-- A row is appended. -/
theorem WiInv.push {R : Ro} {k : Nat} {hs : List Bool} {w wr w3 : World} {i : Nat} {V V' u : Value} {vs : List Value} (h : WiInv R k hs w wr i V vs) {o : Obj} (hu : wr.ownsRow w.heap.size 3 1 u (wiRow R k hs i).length (iCs (wiRow R k hs i)))
    (hown : w3.ownsRow w.heap.size 74 1 V' (i + 1) (vs ++ [u])) (hg : (wr.alloc o).grownBy w3 V.ownBlock) : WiInv R k hs w (w3.setCell ⟨w.heap.size + 1 + 1, 1, none⟩ V') (i + 1) V' (vs ++ [u]) := by
  have hal := (Below.refl wr.heap.size wr).alloc (Nat.le_refl _) o
  have h0 := h.below hal
  have hx0 := h0.x _ rfl
  have hu0 := row_later hu hal
  have kx := hx0.grown hg (blk_ne_row hx0 h0.out (by decide))
  have kr := h0.res.grown hg (blk_ne_row h0.res h0.out (by decide))
  have hs1 := set_grown w3 (w.heap.size + 1 + 1) 1 V'
  have rows3 : ∀ j (hj : j < (vs ++ [u]).length), w3.ownsRow w.heap.size 3 1 (vs ++ [u])[j] (wiRow R k hs j).length (iCs (wiRow R k hs j)) := by
    intro j hj
    rw [List.length_append, List.length_singleton] at hj
    by_cases e : j < vs.length
    · rw [List.getElem_append_left e]
      exact (h0.row j e).kept hg (rows_apart (h0.row j e) h0.out (by decide))
    · have e2 : j = vs.length := by omega
      subst e2
      rw [List.getElem_append_right (Nat.le_refl _)]
      simp only [Nat.sub_self, List.getElem_singleton]
      rw [h.len]
      exact hu0.kept hg (rows_apart hu0 h0.out (by decide))
  have hb3 : Below w.heap.size w w3 := h0.b.grown hg h0.b.size (fun j e => row_ge h0.out e)
  refine ⟨fun cs e => ?_, kr.grown hs1 (by simp), by rw [List.length_append, List.length_singleton, h.len], ?_, fun j hj => ?_, hb3.grown hs1 hb3.size (fun j e => by cases e; omega)⟩
  · rw [e]
    exact kx.set 1 V'
  · exact hown.kept hs1 (.inr (blk_ne_row kx hown (by decide)))
  · exact (rows3 j hj).kept hs1 (.inr (blk_ne_row kx (rows3 j hj) (by decide)))
/-- How with ends. -/
def WiEnds (R' : Ro) (w : World) (e : Ending) (w' : World) : Prop := ∃ v f, e = .returned (.agg #[.int .i64 R'.tracks, v]) ∧ RoRd w' v f R' ∧ Below w.heap.size w w' ∧ ∀ (w2 : World), SameFrom w.heap.size w' w2 → RoRd w2 v f R'
theorem flat_one : ∀ l : List Value, (l.map vC).flatten = l
  | [] => rfl
  | v :: l => by rw [List.map_cons, List.flatten_cons, flat_one l]; rfl
theorem wi_rd {R : Ro} {k : Nat} {hs : List Bool} {F : World} {base : Nat} {V : Value} {vs : List Value} (hlen : vs.length = R.rows.length) (hV : F.ownsRow base 74 1 V R.rows.length vs) (hrow : ∀ j (hj : j < vs.length), F.ownsRow base 3 1 vs[j] (wiRow R k hs j).length (iCs (wiRow R k hs j))) :
    RoRd F V (fun i => vs.getD i (.slice none 0 0)) (wiRo R k hs) := by
  have hl2 : (wiRo R k hs).rows.length = vs.length := by simp [wiRo, hlen]
  have hrows : ((wiRo R k hs).rows.mapIdx fun i _ => [vs.getD i (.slice none 0 0)]) = vs.map vC := by
    apply List.ext_getElem
    · simp [wiRo, hlen]
    · intro i h1 h2
      rw [List.length_map] at h2
      simp [vC, List.getElem?_eq_getElem h2]
  refine ⟨?_, fun i hi => ?_⟩
  · rw [hrows]
    refine ARd.of_row (base := base) (t := 74) (fun r hr => ?_) ?_
    · obtain ⟨p, _, rfl⟩ := List.mem_map.1 hr; rfl
    · rw [List.length_map, hlen, show (vs.map vC).flatten = vs from flat_one vs]
      exact hV
  · have hi2 : i < vs.length := by rw [← hl2]; exact hi
    rw [getD_at hi2]
    simp only [wiRo, List.getElem_map, List.getElem_range]
    exact ARd.of_ints (hrow i hi2)
theorem WiInv.fin {R : Ro} {k : Nat} {hs : List Bool} {w wr : World} {V : Value} {vs : List Value} (h : WiInv R k hs w wr R.rows.length V vs) {a b : Value} :
    ((wr.setCell ⟨w.heap.size + 1, 0, none⟩ a).setCell ⟨w.heap.size + 1, 1, none⟩ b).cell? ⟨w.heap.size + 1, 0, none⟩ = some a ∧ ((wr.setCell ⟨w.heap.size + 1, 0, none⟩ a).setCell ⟨w.heap.size + 1, 1, none⟩ b).cell? ⟨w.heap.size + 1, 1, none⟩ = some b ∧
    RoRd ((wr.setCell ⟨w.heap.size + 1, 0, none⟩ a).setCell ⟨w.heap.size + 1, 1, none⟩ b) V (fun i => vs.getD i (.slice none 0 0)) (wiRo R k hs) ∧ Below w.heap.size w ((wr.setCell ⟨w.heap.size + 1, 0, none⟩ a).setCell ⟨w.heap.size + 1, 1, none⟩ b) ∧
    ∀ (w2 : World), SameFrom w.heap.size ((wr.setCell ⟨w.heap.size + 1, 0, none⟩ a).setCell ⟨w.heap.size + 1, 1, none⟩ b) w2 → RoRd w2 V (fun i => vs.getD i (.slice none 0 0)) (wiRo R k hs) := by
  have hk := (h.res.set 0 a).set 1 b
  have hg : wr.grownBy ((wr.setCell ⟨w.heap.size + 1, 0, none⟩ a).setCell ⟨w.heap.size + 1, 1, none⟩ b) (some (w.heap.size + 1)) := (set_grown wr (w.heap.size + 1) 0 a).trans (set_grown _ (w.heap.size + 1) 1 b)
  have hV := h.out.kept hg (.inr (blk_ne_row h.res h.out (by decide)))
  have hrow : ∀ j (hj : j < vs.length), ((wr.setCell ⟨w.heap.size + 1, 0, none⟩ a).setCell ⟨w.heap.size + 1, 1, none⟩ b).ownsRow w.heap.size 3 1 vs[j] (wiRow R k hs j).length (iCs (wiRow R k hs j)) := fun j hj => (h.row j hj).kept hg (.inr (blk_ne_row h.res (h.row j hj) (by decide)))
  refine ⟨hk.cell 0, hk.cell 1, wi_rd h.len hV hrow, h.b.grown hg h.b.size (fun j e => by cases e; omega), fun w2 hs => wi_rd h.len (hs.row hV) (fun j hj => hs.row (hrow j hj))⟩
theorem withF_eq {l : List Int} {k : Nat} {b : Bool} : withF l k b k = b := by unfold withF; simp
theorem withF_ne {l : List Int} {k t : Nat} {b bb : Bool} (h : t ≠ k) (hb : decide ((t : Int) ∈ l) = bb) : withF l k b t = bb := by unfold withF; rw [hb]; simp [h]
theorem wi_start {R : Ro} {k : Nat} {hs : List Bool} {w : World} {cs : Array Value} :
    WiInv R k hs w (((w.alloc (.cells cs 36)).alloc (.cells #[.int .i64 0, .slice none 0 0] 36)).alloc (.cells #[.int .i64 R.tracks, .slice none 0 0] 36)) 0 (.slice none 0 0) [] ∧
    Blk (((w.alloc (.cells cs 36)).alloc (.cells #[.int .i64 0, .slice none 0 0] 36)).alloc (.cells #[.int .i64 R.tracks, .slice none 0 0] 36)) w.heap.size 36 cs := by
  have a0 := Blk.new w 36 cs
  have b0 := (Below.refl w.heap.size w).alloc (Nat.le_refl _) (.cells cs 36)
  have s0 : (w.alloc (.cells cs 36)).heap.size = w.heap.size + 1 := World.size_alloc _ _
  generalize w.alloc (.cells cs 36) = w1 at *
  have a1 := Blk.new w1 36 #[.int .i64 0, .slice none 0 0]
  have b1 := (Below.refl w1.heap.size w1).alloc (Nat.le_refl _) (.cells #[.int .i64 0, .slice none 0 0] 36)
  have s1 : (w1.alloc (.cells #[.int .i64 0, .slice none 0 0] 36)).heap.size = w1.heap.size + 1 := World.size_alloc _ _
  generalize w1.alloc (.cells #[.int .i64 0, .slice none 0 0] 36) = w2 at *
  have a2 := Blk.new w2 36 #[.int .i64 R.tracks, .slice none 0 0]
  have b2 := (Below.refl w2.heap.size w2).alloc (Nat.le_refl _) (.cells #[.int .i64 R.tracks, .slice none 0 0] 36)
  rw [s1, s0] at a2
  rw [s0] at a1
  have c1 := a1.below b2
  have c0 := (a0.below b1).below b2
  generalize w2.alloc (.cells #[.int .i64 R.tracks, .slice none 0 0] 36) = w3 at *
  exact ⟨⟨fun cs e => by rw [e]; exact a2, c1, rfl, World.ownsRow_nil _ _ _ _, fun j hj => absurd hj (Nat.not_lt_zero j), below_step (below_step b0 b1) b2⟩, c0⟩
/-- What an append to the rows leaves. -/
theorem WiInv.app {R : Ro} {k : Nat} {hs : List Bool} {w wr w3 : World} {i : Nat} {V u : Value} {vs : List Value} (h : WiInv R k hs w wr i V vs) {cs : Array Value} (hx : Blk wr w.heap.size 36 cs) (hu : wr.ownsRow w.heap.size 3 1 u (wiRow R k hs i).length (iCs (wiRow R k hs i))) (o : Obj) (V' : Value)
    (hg : (wr.alloc o).grownBy w3 V.ownBlock) (hown : w3.ownsRow w.heap.size 74 1 V' (i + 1) (vs ++ [u])) :
    w3.cell? ⟨w.heap.size + 1 + 1, 1, none⟩ = some V ∧ w3.frozen? ⟨w.heap.size + 1 + 1, 1, none⟩ = false ∧
    RowKit.Hid (WiInv R k hs w (w3.setCell ⟨w.heap.size + 1 + 1, 1, none⟩ V') (i + 1) V' (vs ++ [u])) ∧ RowKit.Hid (Blk (w3.setCell ⟨w.heap.size + 1 + 1, 1, none⟩ V') w.heap.size 36 cs) := by
  have hal : Below wr.heap.size wr (wr.alloc o) := (Below.refl _ _).alloc (Nat.le_refl _) _
  have h0 := h.below hal
  have k1 := (h0.x _ rfl).grown hg (blk_ne_row (h0.x _ rfl) h0.out (by decide))
  have k2 := (hx.below hal).grown hg (blk_ne_row (hx.below hal) h0.out (by decide))
  exact ⟨k1.cell 1, k1.frozen 1, Lib.hid (h.push hu hown hg), Lib.hid (k2.other _ _ (by simp only; omega))⟩
set_option maxRecDepth 100000 in
set_option maxHeartbeats 6400000 in
theorem with_any (R : Ro) (hok : RoOk R) (hl : R.rows.length ≤ 20000) (h0 : 0 ≤ R.tracks) (h128 : R.tracks ≤ 128) (v : Value) (f : Nat → Value) (k : Nat) (hk : k ≤ 128) (G cap : Nat) (hs : List Bool) (hlen : hs.length = R.rows.length) (w : World) (hr : RoRd w v f R) (hh : EnB w 4 1 bC G cap hs) :
    Calls Tryz.prog 57 #[.agg #[.int .i64 R.tracks, v], .int .i64 k, .slice (some ⟨G, 0, none⟩) R.rows.length R.rows.length] w (WiEnds (wiRo R k hs) w) := by
  obtain ⟨av, cv, rfl⟩ := hr.form
  have HR := Lib.hid hr
  have HO := Lib.hid hok
  have HH := Lib.hid hh
  have HL := Lib.hid hlen
  obtain ⟨hi1, hx1⟩ := wi_start (R := R) (k := k) (hs := hs) (w := w) (cs := #[.int .i64 R.tracks, .slice av R.rows.length cv])
  have HI0 := Lib.hid hi1
  have HX0 := Lib.hid hx1
  obtain ⟨i0, hi0, hz0, hz1, hz2⟩ := info_parts int_info
  obtain ⟨j0, hj0, jz0, jz1, jz2⟩ := info_parts ints_info
  clear hr hok hh hlen hi1 hx1
  go_enter Tryz.func57, Tryz.ntmps57
  go_wp2
  generalize ((w.alloc (Obj.cells #[.int .i64 R.tracks, .slice av R.rows.length cv] 36)).alloc (Obj.cells #[.int .i64 0, .slice none 0 0] 36)).alloc (Obj.cells #[.int .i64 R.tracks, .slice none 0 0] 36) = w3 at *
  go_loopw [8] (fun x wr => ∃ (i : Nat) (V : Value) (vs : List Value), i ≤ R.rows.length ∧ x = .int .i64 i ∧ RowKit.Hid (WiInv R k hs w wr i V vs) ∧ RowKit.Hid (Blk wr w.heap.size 36 #[.int .i64 R.tracks, .slice av R.rows.length cv])) (fun x _ => R.rows.length - (intOf x).toNat)
  case atStart => exact ⟨0, _, _, by omega, rfl, HI0, HX0⟩
  clear HI0 HX0
  obtain ⟨i, V, vs, hi, rfl, hI, hX⟩ := hrel
  rename World => Wi
  have x1 : Wi.cell? ⟨w.heap.size, 1, none⟩ = some (.slice av R.rows.length cv) := hX.out.cell 1
  by_cases hlt : i < R.rows.length
  · obtain ⟨b, o, c, a2, c2, ev, hbl, hc0, hrow2⟩ := HR.out.at i hlt
    have hc := (hI.out.b.cell (p := ⟨b, o + i, none⟩) hbl).trans hc0
    cases ev
    obtain ⟨l, hll0⟩ := any_eq R.rows[i]
    have hgi : R.rows.getD i [] = l := by rw [getD_at hlt]; exact hll0
    rw [hll0] at hc hc0 hrow2
    have HROW := Lib.hid (hrow2.later hI.out.b)
    have hll : l.length ≤ 1000 := HO.out.row hl _ (by rw [← hll0]; exact List.getElem_mem hlt)
    have hi2 : (i : Int) < (R.rows.length : Int) := by omega
    have hil : i < hs.length := by rw [HL.out]; exact hlt
    obtain ⟨hb, hhb⟩ := any_eq hs[i]
    have hcl := ((HH.out.below (hI.out.b.mono (Nat.le_refl _))).cell bC_len hil (j := 0) (u := .bool hb) (by rw [hhb]; rfl)).1
    rw [Nat.mul_one, Nat.add_zero] at hcl
    have HW := Lib.hid (show wiRow R k hs i = told (withF l k hb) R.tracks.toNat by unfold wiRow; rw [hgi, getD_at hil, hhb])
    have hsz := hI.out.b.size
    clear hll0 hgi hc0 hrow2 hhb
    go_wp2
    go_loopw [9, 10] (fun u x wr => ∃ (t : Nat), (t : Int) ≤ R.tracks ∧ x = .int .i64 t ∧ RowKit.Hid (wr.ownsRow Wi.heap.size 3 1 u (told (withF l k hb) t).length (iCs (told (withF l k hb) t))) ∧ RowKit.Hid (Below Wi.heap.size Wi wr)) (fun _ x _ => R.tracks.toNat - (intOf x).toNat)
    case atStart => exact ⟨0, by omega, rfl, Lib.hid (World.ownsRow_nil _ _ _ _), Lib.hid (Below.refl _ _)⟩
    obtain ⟨t, ht, rfl, hrow, hW2⟩ := hrel
    have y0 := (hX.out.below hW2.out).cell 0
    have y1 := (hX.out.below hW2.out).cell 1
    have hsz2 := hW2.out.size
    by_cases htl : (t : Int) < R.tracks
    · have hle := told_len (withF l k hb) t
      obtain ⟨ua, uc, rfl⟩ := own_form hrow.out
      have HPL := Lib.hid (fun (o : Obj) (w3 : World) (hg : (wr.alloc o).grownBy w3 (Value.slice ua (told (withF l k hb) t).length uc).ownBlock) => push_low hW2.out hrow.out hg)
      have skip : withF l k hb t = false → RowKit.Hid (wr.ownsRow Wi.heap.size 3 1 (.slice ua (told (withF l k hb) t).length uc) (told (withF l k hb) (t + 1)).length (iCs (told (withF l k hb) (t + 1)))) := fun h => by
        rw [withF_next, h, if_neg (by decide), List.append_nil]
        exact hrow
      have push : withF l k hb t = true → ∀ {w3 : World} {v : Value}, w3.ownsRow Wi.heap.size 3 1 v ((told (withF l k hb) t).length + 1) (iCs (told (withF l k hb) t) ++ [.int .i64 t]) → RowKit.Hid (w3.ownsRow Wi.heap.size 3 1 v (told (withF l k hb) (t + 1)).length (iCs (told (withF l k hb) (t + 1)))) := fun h w3 v hv => by
        rw [withF_next, h, if_pos rfl]
        rw [List.length_append, List.length_singleton, iCs_snoc]
        exact Lib.hid hv
      have SK := Lib.hid skip
      have PU := Lib.hid (@push)
      clear skip push
      by_cases e : t = k
      · subst e
        have hcl2 : wr.cell? ⟨G, i, none⟩ = some (.bool hb) := (hW2.out.cell (cell_size hcl)).trans hcl
        have HFE := Lib.hid (show withF l t hb t = hb from withF_eq)
        cases hb with
        | false =>
          go_wp2
          go_roundw
          case rel => exact ⟨t + 1, by omega, by go_num, SK.out HFE.out, hW2⟩
          case measure => simp [intOf]; omega
        | true =>
          go_wp2_with (at_builtin; refine wpList_append_lies _ rfl _ _ 74 rfl Wi.heap.size 3 i0 _ 1 8 Tryz.underlying74 hi0 hz0 hz1 hz2 rfl (by omega) _ _ _ rfl (hrow.out.alloc _) ⟨wr.heap.size, 0, none⟩ 1 1 [.int .i64 t] rfl rfl (World.news_of_block (cs := #[.int .i64 t]) (t := 3) (fr := (0, 0)) (heap_alloc_new wr _)) (by simp [Value.oneCell']) (by omega) (by unfold maxLen; omega) (by omega) (by simp; omega) (wr.heap.size + 1) (by simp) ?_; intro gg cap3 w3 hown3 hgrow hat3 hlt3)
          have HP2 := PU.out HFE.out hown3
          have HB3 := Lib.hid (HPL.out _ _ hgrow)
          exact ⟨⟨t + 1, by omega, by go_num, HP2, HB3⟩, by simp [intOf]; omega⟩
      · have hx1 : ((t : Int) == (k : Int)) = false := by rw [beq_eq_false_iff_ne]; omega
        have hx2 : ¬ (t : Int) = (k : Int) := by omega
        have hc2 := (hW2.out.cell (cell_size hc)).trans hc
        obtain ⟨bb, hbb⟩ := any_eq (decide ((t : Int) ∈ l))
        have HBB := Lib.hid hbb
        have HFE := Lib.hid (withF_ne (b := hb) e hbb)
        clear e hbb
        cases bb with
        | false =>
          go_wp2_with (go_at_call 86; refine (in_any l t _ _ (by omega) (HROW.out.later hW2.out) false HBB.out).mono ?_; rintro e w' ⟨rfl, rfl⟩)
          go_roundw
          case rel => exact ⟨t + 1, by omega, by go_num, SK.out HFE.out, hW2⟩
          case measure => simp [intOf]; omega
        | true =>
          go_wp2_with first | (go_at_call 86; refine (in_any l t _ _ (by omega) (HROW.out.later hW2.out) true HBB.out).mono ?_; rintro e w' ⟨rfl, rfl⟩) | (at_builtin; refine wpList_append_lies _ rfl _ _ 74 rfl Wi.heap.size 3 i0 _ 1 8 Tryz.underlying74 hi0 hz0 hz1 hz2 rfl (by omega) _ _ _ rfl (hrow.out.alloc _) ⟨wr.heap.size, 0, none⟩ 1 1 [.int .i64 t] rfl rfl (World.news_of_block (cs := #[.int .i64 t]) (t := 3) (fr := (0, 0)) (heap_alloc_new wr _)) (by simp [Value.oneCell']) (by omega) (by unfold maxLen; omega) (by omega) (by simp; omega) (wr.heap.size + 1) (by simp) ?_; intro gg cap3 w3 hown3 hgrow hat3 hlt3)
          have HP2 := PU.out HFE.out hown3
          have HB3 := Lib.hid (HPL.out _ _ hgrow)
          exact ⟨⟨t + 1, by omega, by go_num, HP2, HB3⟩, by simp [intOf]; omega⟩
    · have hte : R.tracks.toNat = t := by omega
      have HI2 := Lib.hid (hI.out.below hW2.out)
      have HX2 := Lib.hid (hX.out.below hW2.out)
      have HU : RowKit.Hid (wr.ownsRow w.heap.size 3 1 u9 (wiRow R k hs i).length (iCs (wiRow R k hs i))) := by
        rw [HW.out, hte]
        exact Lib.hid (row_base hrow.out hsz)
      clear hrow hte
      obtain ⟨ua, uc, eu⟩ := own_form HU.out
      obtain ⟨n, hn⟩ := any_eq (wiRow R k hs i).length
      rw [hn] at eu
      subst eu
      obtain ⟨va, vc, eV⟩ := own_form HI2.out.out
      subst eV
      have HOUT := Lib.hid HI2.out.out
      have z1 := (HI2.out.x _ rfl).cell 1
      have hsz3 := HI2.out.b.size
      have HAP := Lib.hid (fun (o : Obj) (w3 : World) (V' : Value) => HI2.out.app (w3 := w3) HX2.out HU.out o V')
      clear hn
      go_wp2_with (at_builtin; refine wpList_append_lies _ rfl _ _ 34 rfl w.heap.size 74 j0 _ 1 24 Tryz.underlying34 hj0 jz0 jz1 jz2 rfl (by omega) _ _ _ rfl (HOUT.out.alloc _) ⟨wr.heap.size, 0, none⟩ 1 1 [.slice ua n uc] rfl rfl (World.news_of_block (cs := #[.slice ua n uc]) (t := 74) (fr := (0, 0)) (heap_alloc_new wr _)) (by simp [Value.oneCell']) (by omega) (by unfold maxLen; omega) (by omega) (by simp; omega) (wr.heap.size + 1) (by simp) ?_; intro gg cap3 w3 hown3 hgrow hat3 hlt3; obtain ⟨s1, s2, HI3, HX3⟩ := HAP.out _ _ _ hgrow hown3; clear hown3 hgrow hat3 hlt3)
      go_roundw
      case rel => exact ⟨i + 1, _, _, by omega, by go_num, HI3, HX3⟩
      case measure => simp [intOf]; omega
  · have hi2 : ¬ ((i : Int) < (R.rows.length : Int)) := by omega
    have hie : i = R.rows.length := by omega
    have HE : RowKit.Hid (WiInv R k hs w Wi R.rows.length V vs) := by rw [← hie]; exact hI
    have r0 := hI.out.res.cell 0
    have r1 := hI.out.res.cell 1
    have f0 := hI.out.res.frozen 0
    have f1 := hI.out.res.frozen 1
    have z0 := (hI.out.x _ rfl).cell 0
    have z1 := (hI.out.x _ rfl).cell 1
    clear hie hI
    obtain ⟨va, vc, eV⟩ := own_form HE.out.out
    subst eV
    go_wp2
    obtain ⟨c0, c1, hrd, hbl, hrk⟩ := HE.out.fin (a := .int .i64 R.tracks) (b := .slice va R.rows.length vc)
    refine bodyPost_ret (v := .agg #[.int .i64 R.tracks, .slice va R.rows.length vc]) (by simp [results, Tryz.results57, go_sem, c0, c1]) rfl ⟨_, _, rfl, hrd, hbl, hrk⟩
end Go.Proofs.YtppccacfdpkkgaaGreatDoor
