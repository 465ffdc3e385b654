/-
  CONTRACTS: Shared: the map of all pipes that stops use.
-/
import Derived.Test.YtkddeliifadcoaaDoorG2
import Derived.Test.YtkddeliifadcoaaDoorG3
import Derived.Test.YtkddeliifadcoaaDoorC10
import Derived.Deep.RegionLaw
import Derived.Deep.AppendLies
namespace Go.Proofs.YtkddeliifadcoaaDoor
open Go.RowKit
theorem Blk.grown {W W' : World} {B : Nat} {t : TypeId} {cs : Array Value} {row : Option Nat} (h : Blk W B t cs) (hg : W.grownBy W' row) (hne : some B ≠ row) : Blk W' B t cs := (hg.block B h.lt hne).trans h
theorem blk_ne_row {W : World} {B : Nat} {t : TypeId} {cs : Array Value} {base : Nat} {t2 : TypeId} {k n : Nat} {v : Value} {xs : List Value} (hb : Blk W B t cs) (h : W.ownsRow base t2 k v n xs) (ht : t ≠ t2) : some B ≠ v.ownBlock := by
  rcases h.2 with ⟨rfl, _⟩ | ⟨g, cap, cur, rfl, _, hg, _⟩
  · simp [Value.ownBlock]
  · intro e
    have : B = g := by simpa [Value.ownBlock] using e
    rw [← this, show W.heap[B]? = _ from hb] at hg
    cases hg
    exact ht rfl
theorem row_last {W : World} {base : Nat} {v : Value} {l l' : List Int} {z : Int} (h : W.ownsRow base 3 1 v l.length (iCs l)) (hl : l = l' ++ [z]) : ∃ g cap, v = .slice (some ⟨g, 0, none⟩) l.length cap ∧ W.cell? ⟨g, l.length - 1, none⟩ = some (.int .i64 z) := by
  obtain ⟨_, ⟨_, h0⟩ | ⟨g, cap, cur, hv, _, hg, hn, _, hz, hx⟩⟩ := h
  · rw [hl] at h0; simp at h0
  · refine ⟨g, cap, hv, ?_⟩
    have e : (iCs l)[l.length - 1]? = some (.int .i64 z) := by
      rw [hl]
      simp [iCs]
    rw [← hx, List.getElem?_take] at e
    split at e
    · simp only [World.cell?, hg]
      simpa using e
    · cases e
/-- An append to a pipe's row, and the store of it. -/
theorem ShMap.upd {W w3 : World} {o : Obj} {base bm n gg cap : Nat} {D : List (Pp × Value)} {G : Pp → List Int} {a : Pp} {v0 v1 : Value} {i : Int} (hm : Mp ekP W bm D) (hr : ShRows W base D G) (hv0 : (mget a D).getD (.slice none 0 0) = v0) (hr0 : W.ownsRow base 3 1 v0 (G a).length (iCs (G a)))
    (hv1 : v1 = v0) (hg : (W.alloc o).grownBy w3 v1.ownBlock) (hrow : w3.ownsRow base 3 1 (.slice (some ⟨gg, 0, none⟩) n cap) n (iCs (G a) ++ [.int .i64 i])) (hn : n = (G a).length + 1) (hat : v1.ownBlock = some gg ∨ gg = W.heap.size + 1) :
    ∃ w4, (Instr.mapUpdate 90 (.map (some bm)) (.agg #[.int .i64 a.1, .int .i64 a.2]) (.slice (some ⟨gg, 0, none⟩) n cap)).run Tryd.prog w3 = .ok () w4 ∧ ShMap w4 base bm (fun q => if q = a then G a ++ [i] else G q) ∧
      (∀ W0 : World, Below W0.heap.size W0 W → W0.heap.size ≤ base → W0.heap.size ≤ bm → Below W0.heap.size W0 w4) ∧ ∀ (B : Nat) (t : TypeId) (cs : Array Value), t ≠ 3 → Blk W B t cs → Blk w4 B t cs := by
  subst hv1
  have hal : Below W.heap.size W (W.alloc o) := (Below.refl _ _).alloc (Nat.le_refl _) _
  have hm3 : Mp ekP w3 bm D := (hm.below hal).kept hg (mp_ne_row (hm.below hal) (row_later hr0 hal))
  obtain ⟨w4, hup, h4, hg4, hs4⟩ := hm3.update pp_keys Tryd.underlying90 a (.slice (some ⟨gg, 0, none⟩) n cap)
  refine ⟨w4, hup, ShMap.step hm hr hv0 hg hrow hn hat h4 hg4, fun W0 hb hbase hbm => ?_, fun B t cs ht hk => ?_⟩
  · refine ((hb.alloc hb.size o).grown hg (by have := hb.size; simp; omega) (fun j e => Nat.le_trans hbase (row_ge hr0 e))).grown hg4 ?_ (fun j e => by cases e; exact hbm)
    have := hb.size
    have := hg.size
    simp at this
    omega
  · refine ((hk.alloc o).grown hg (blk_ne_row (hk.alloc o) (row_later hr0 hal) ht)).grown hg4 ?_
    intro e
    obtain ⟨es, clock, hb, _⟩ := hm
    have : B = bm := by simpa using e
    rw [this] at hk
    rw [show W.heap[bm]? = _ from hk] at hb
    cases hb
/-- One more key. -/
def gK (S : Sp) (i j : Nat) (x : St) (y : Pt) (key : Int) (p : Pp) : List Int := ub S.ss p i ++ if (seenB x j p || upTo y key p) = true then [(i : Int)] else []
theorem gK_seen {S : Sp} {i j : Nat} {x : St} {y : Pt} {key : Int} (h : y.lo ≤ key) (hs : (seenB x j (y.rank, key + y.shift) || upTo y key (y.rank, key + y.shift)) = true) (p : Pp) : gK S i j x y key p = gK S i j x y (key + 1) p := by
  unfold gK
  rw [upTo_succ y key h p]
  by_cases hp : p = (y.rank, key + y.shift)
  · subst hp
    rw [hs]
    rw [if_pos rfl, if_pos (by rw [← Bool.or_assoc, hs]; rfl)]
  · rw [decide_eq_false hp, Bool.or_false]
theorem gK_new {S : Sp} {i j : Nat} {x : St} {y : Pt} {key : Int} (h : y.lo ≤ key) (hs : (seenB x j (y.rank, key + y.shift) || upTo y key (y.rank, key + y.shift)) = false) (p : Pp) : (if p = (y.rank, key + y.shift) then gK S i j x y key (y.rank, key + y.shift) ++ [(i : Int)] else gK S i j x y key p) = gK S i j x y (key + 1) p := by
  by_cases hp : p = (y.rank, key + y.shift)
  · subst hp
    rw [if_pos rfl]
    unfold gK
    rw [upTo_succ y key h, hs, decide_eq_true rfl]
    simp
  · rw [if_neg hp]
    unfold gK
    rw [upTo_succ y key h p, decide_eq_false hp, Bool.or_false]
theorem share_sm {S : Sp} (g : SpGood S) {p : Pp} (h : 1 < (ub S.ss p S.ss.length).length) : Sm p := by
  obtain ⟨k, hk, h1, h2, h3⟩ := mem_allFrom.1 (ub_in g (p := p) (k := S.ss.length) (by intro e; rw [e] at h; simp at h))
  have hr := rk_ok (g.r _ (List.getElem_mem hk))
  have := g.rs
  unfold Sm
  omega
theorem perm_strike {l : List (Pp × Value)} {x : Pp} {v : Value} (hn : (l.map (·.1)).Nodup) (h : (x, v) ∈ l) : l.Perm ((x, v) :: l.filter fun p => !decide (p.1 = x)) := by
  induction l with
  | nil => cases h
  | cons a l ih =>
    rw [List.map_cons, List.nodup_cons] at hn
    rcases List.mem_cons.1 h with e | h
    · subst e
      rw [List.filter_cons_of_neg (by simp), List.filter_eq_self.2]
      intro p hp
      have : p.1 ≠ x := fun q => hn.1 (by rw [← q]; exact List.mem_map.2 ⟨p, hp, rfl⟩)
      simpa using this
    · have ha : a.1 ≠ x := fun q => hn.1 (by rw [q]; exact List.mem_map.2 ⟨_, h, rfl⟩)
      rw [List.filter_cons_of_pos (by simpa using ha)]
      exact ((ih hn.2 h).cons a).trans (List.Perm.swap _ _ _)
theorem lp_yes {S : Sp} {done : List (Pp × Value)} {x : Pp} {v : Value} (h : longB S x = true) : ((done ++ [(x, v)]).map (·.1)).filter (longB S) = (done.map (·.1)).filter (longB S) ++ [x] := by
  rw [List.map_append, List.filter_append]
  simp [h]
theorem lp_no {S : Sp} {done : List (Pp × Value)} {x : Pp} {v : Value} (h : longB S x = false) : ((done ++ [(x, v)]).map (·.1)).filter (longB S) = (done.map (·.1)).filter (longB S) := by
  rw [List.map_append, List.filter_append]
  simp [h]
theorem rg_ne_row {W : World} {bm r : Nat} {D left : List (Pp × Value)} {base : Nat} {t : TypeId} {k n : Nat} {v : Value} {xs : List Value} (hm : Rg ekP W bm r D left) (h : W.ownsRow base t k v n xs) : some r ≠ v.ownBlock := by
  obtain ⟨es, clock, since, seen, c0, _, _, _, _, _, hr, _⟩ := hm
  rcases h.2 with ⟨rfl, _⟩ | ⟨g, cap, cur, rfl, _, hg, _⟩
  · simp [Value.ownBlock]
  · intro e
    have : r = g := by simpa [Value.ownBlock] using e
    rw [this, hg] at hr
    cases hr
theorem Rg.push {W W' : World} {o : Obj} {bm r : Nat} {D left : List (Pp × Value)} {base : Nat} {t : TypeId} {k n : Nat} {v : Value} {xs : List Value} (h : Rg ekP W bm r D left) (hrow : W.ownsRow base t k v n xs) (hg : (W.alloc o).grownBy W' v.ownBlock) : Rg ekP W' bm r D left := by
  have hal : Below W.heap.size W (W.alloc o) := (Below.refl _ _).alloc (Nat.le_refl _) _
  exact (h.below hal).kept hg (mp_ne_row (h.mp.below hal) (hrow.alloc o)) (rg_ne_row (h.below hal) (hrow.alloc o))
/-- A pipe's slice in the map, by its parts. -/
def svOf (D : List (Pp × Value)) (p : Pp) : SlV := match mget p D with
  | some (.slice a n c) => ⟨a, n, c⟩
  | _ => ⟨none, 0, 0⟩
theorem nodup_len {l m : List Pp} (h : l.Nodup) (hs : ∀ x ∈ l, x ∈ m) : l.length ≤ m.length := by
  induction l generalizing m with
  | nil => exact Nat.zero_le _
  | cons a l ih =>
    rw [List.nodup_cons] at h
    have ha := hs a (by simp)
    have h2 := ih h.2 (m := m.erase a) (fun x hx => (List.mem_erase_of_ne (fun e => h.1 (by rw [← e]; exact hx))).2 (hs x (by simp [hx])))
    rw [List.length_erase_of_mem ha] at h2
    have : 0 < m.length := List.length_pos_of_mem ha
    rw [List.length_cons]
    omega
set_option maxRecDepth 100000 in
set_option maxHeartbeats 6400000 in
theorem shared_good (v1 v2 v3 v4 : Value) (S : Sp) (ok : SpOk S) (w : World) (t : Tabs w) (f : Nat → Value) (hsp : SpRd w v1 v2 v3 v4 f S) (hz : (checkP S).2 = 0) :
    Calls Tryd.prog 15 #[.agg #[v1, v2, v3, v4]] w (ShEnds (sharedP S) w) := by
  have hmm := @run_makeMap Tryd.prog
  have hb0 : Below w.heap.size w (w.alloc (.cells #[v1, v2, v3, v4] 27)) := (Below.refl _ w).alloc (Nat.le_refl _) _
  have k0 : Blk (w.alloc (.cells #[v1, v2, v3, v4] 27)) w.heap.size 27 #[v1, v2, v3, v4] := Blk.new w _ _
  have HC := Lib.hid (check_any v1 v2 v3 v4 S ok _ (t.below hb0) f (hsp.later hb0))
  have HSP := Lib.hid hsp
  have HG := Lib.hid (spGood hz)
  have HP := Lib.hid (show sharedP S = (shareP S, 0) by unfold sharedP; rw [if_pos hz])
  obtain ⟨_, _, ⟨a3, c3, ev3⟩, _⟩ := hsp.forms
  subst ev3
  obtain ⟨fl, hfl⟩ : ∃ fl, fl = (checkP S).1 := ⟨_, rfl⟩
  have hcv : ckV (checkP S) = .tuple #[.agg #[.int .i64 fl.1, .int .i64 fl.2.1, .int .i64 fl.2.2], .int .i64 0] := by unfold ckV; rw [hz, hfl]
  rw [hcv] at HC
  have hss := HG.out.ss
  clear hcv hfl hz ok hsp
  go_enter Tryd.func15, Tryd.ntmps15
  go_wp2_with fail
  refine (HC.out).mono ?_
  rintro e w1 ⟨rfl, hb1⟩
  have k1 := k0.below hb1
  have hb := below_step hb0 hb1
  obtain ⟨W0, hW0⟩ : ∃ W0, W0 = w1.alloc (.cells #[.int .i64 fl.1, .int .i64 fl.2.1, .int .i64 fl.2.2] 31) := ⟨_, rfl⟩
  have hbA : Below w.heap.size w W0 := by rw [hW0]; exact hb.alloc hb.size _
  have k2 : Blk W0 w.heap.size 27 #[v1, v2, .slice a3 S.ss.length c3, v4] := by rw [hW0]; exact k1.alloc _
  have HBA := Lib.hid hbA
  have hal : Below W0.heap.size W0 (W0.alloc (.map #[] 0)) := (Below.refl _ _).alloc (Nat.le_refl _) _
  obtain ⟨s0, s1, s2, s3⟩ := (k2.below hal).four
  have hsz0 : W0.heap.size = w1.heap.size + 1 := by rw [hW0]; simp
  have HSZ := Lib.hid hsz0
  have hst : RowKit.Hid (ShMap (W0.alloc (.map #[] 0)) (W0.heap.size + 1) (w1.heap.size + 1) (fun p => ub S.ss p 0)) := by rw [← hsz0]; exact Lib.hid (ShMap.new W0 _)
  have hrefl : RowKit.Hid (Below W0.heap.size W0 (W0.alloc (.map #[] 0))) := Lib.hid hal
  obtain ⟨j0, hj0, jz0, jz1, jz2⟩ := info_parts ints_info
  rw [hW0] at s0 s1 s2 s3
  have HW0 := Lib.hid hW0
  clear HC k0 k1 k2 hb hb0 hb1 hbA hal hW0 hsz0
  go_wp2
  rw [← HW0.out]
  clear s0 s1 s2 s3 hmm
  go_loopw [29] (fun x wr => ∃ i : Nat, i ≤ S.ss.length ∧ x = .int .i64 i ∧ RowKit.Hid (ShMap wr (W0.heap.size + 1) (w1.heap.size + 1) (fun p => ub S.ss p i)) ∧ RowKit.Hid (Below W0.heap.size W0 wr)) (fun x _ => S.ss.length - (intOf x).toNat)
  case atStart => exact ⟨0, by omega, rfl, hst, hrefl⟩
  clear hst hrefl
  obtain ⟨i, hi, rfl, hM, hW⟩ := hrel
  by_cases hlt : i < S.ss.length
  · have hki : (i : Int) < (S.ss.length : Int) := by omega
    have hsp := HSP.out.later (below_step HBA.out hW.out)
    obtain ⟨b, o, c', ev', hbl', e3, e4, e5, e6, e7⟩ := hsp.sAt i hlt
    cases ev'
    have hxm := List.getElem_mem hlt
    obtain ⟨x, hx⟩ : ∃ x, x = S.ss[i] := ⟨_, rfl⟩
    have HFV := Lib.hid (hsp.p i hlt)
    obtain ⟨ap, cp, efp⟩ := HFV.out.form
    rw [List.length_map] at efp
    rw [efp] at HFV e7
    have EFP := Lib.hid efp
    have HXM := Lib.hid (show x ∈ S.ss by rw [hx]; exact hxm)
    have hpl := (HG.out.s _ hxm).2.2.2
    rw [← hx] at e3 e4 e5 e6 e7 HFV hpl
    have HX := Lib.hid hx
    have hal : Below wr.heap.size wr (wr.alloc (.cells #[.string x.name, .int .i64 x.div, .int .i64 x.num, .int .i64 x.den, .slice ap x.parts.length cp] 61)) := (Below.refl _ _).alloc (Nat.le_refl _) _
    have HM1 := Lib.hid ((hM.out.below hal).congr (G' := fun p => ub S.ss p i ++ if seenB x 0 p = true then [(i : Int)] else []) (fun p => by simp [seenB]))
    have HW1 := Lib.hid (below_step hW.out hal)
    have HFV2 := Lib.hid (HFV.out.later hal)
    clear efp hx hal hsp hxm hM hW
    go_wp2
    go_loopw [37] (fun z wi => ∃ j : Nat, j ≤ x.parts.length ∧ z = .int .i64 j ∧ RowKit.Hid (ShMap wi (W0.heap.size + 1) (w1.heap.size + 1) (fun p => ub S.ss p i ++ if seenB x j p = true then [(i : Int)] else [])) ∧ RowKit.Hid (Below W0.heap.size W0 wi)) (fun z _ => x.parts.length - (intOf z).toNat)
    case atStart => exact ⟨0, by omega, rfl, HM1, HW1⟩
    clear HM1 HW1 HFV2 e3 e4 e5 e6 e7
    obtain ⟨j, hj, rfl, hM, hW⟩ := hrel
    by_cases hjt : j < x.parts.length
    · have hkj : (j : Int) < (x.parts.length : Int) := by omega
      have hFV := (HSP.out.later (below_step HBA.out hW.out)).p i hlt
      rw [EFP.out, ← HX.out] at hFV
      obtain ⟨bp, op, cp', evp, hbp, hc⟩ := hFV.at j (by simpa using hjt)
      rw [List.getElem_map] at hc
      rw [List.length_map] at evp
      cases evp
      have p0 : wr.cell? ⟨bp, op + j * 4, none⟩ = some (.int .i64 x.parts[j].rank) := hc 0 _ rfl
      have p1 : wr.cell? ⟨bp, op + j * 4 + 1, none⟩ = some (.int .i64 x.parts[j].shift) := hc 1 _ rfl
      have p2 : wr.cell? ⟨bp, op + j * 4 + 2, none⟩ = some (.int .i64 x.parts[j].lo) := hc 2 _ rfl
      have p3 : wr.cell? ⟨bp, op + j * 4 + 3, none⟩ = some (.int .i64 x.parts[j].hi) := hc 3 _ rfl
      obtain ⟨hr0, hr1, hsh1, hsh2, hlo, hlh, hhi⟩ : 0 ≤ x.parts[j].rank ∧ x.parts[j].rank ≤ 40 ∧ -96 ≤ x.parts[j].shift ∧ x.parts[j].shift ≤ 96 ∧ 0 ≤ x.parts[j].lo ∧ x.parts[j].lo ≤ x.parts[j].hi ∧ x.parts[j].hi ≤ 127 := by
        obtain ⟨k, hk, h0, h1, h2, h3, h4, h5, _⟩ := HG.out.part HXM.out (List.getElem_mem hjt)
        have := HG.out.rs
        exact ⟨by omega, by omega, h1, h2, h3, h4, h5⟩
      obtain ⟨y, hy⟩ : ∃ y, y = x.parts[j] := ⟨_, rfl⟩
      rw [← hy] at p0 p1 p2 p3 hr0 hr1 hsh1 hsh2 hlo hlh hhi
      have HY := Lib.hid hy
      obtain ⟨Bp, hBp⟩ : ∃ Bp, Bp = wr.heap.size := ⟨_, rfl⟩
      have hal : Below wr.heap.size wr (wr.alloc (.cells #[.int .i64 y.rank, .int .i64 y.shift, .int .i64 y.lo, .int .i64 y.hi] 75)) := (Below.refl _ _).alloc (Nat.le_refl _) _
      have HM1 := Lib.hid ((hM.out.below hal).congr (G' := gK S i j x y y.lo) (fun p => by unfold gK; rw [upTo_start, Bool.or_false]))
      have HW1 := Lib.hid (below_step hW.out hal)
      have HK1 : RowKit.Hid (Blk (wr.alloc (.cells #[.int .i64 y.rank, .int .i64 y.shift, .int .i64 y.lo, .int .i64 y.hi] 75)) Bp 75 #[.int .i64 y.rank, .int .i64 y.shift, .int .i64 y.lo, .int .i64 y.hi]) := by rw [hBp]; exact Lib.hid (Blk.new _ _ _)
      have HBP := Lib.hid hBp
      clear hc hy hal hM hW hFV
      go_wp2
      rw [← hBp]
      clear hBp
      go_loopw [11] (fun z wi => ∃ key : Int, y.lo ≤ key ∧ key ≤ y.hi + 1 ∧ z = .int .i64 key ∧ RowKit.Hid (ShMap wi (W0.heap.size + 1) (w1.heap.size + 1) (gK S i j x y key)) ∧ RowKit.Hid (Below W0.heap.size W0 wi) ∧ RowKit.Hid (Blk wi Bp 75 #[.int .i64 y.rank, .int .i64 y.shift, .int .i64 y.lo, .int .i64 y.hi])) (fun z _ => (y.hi + 1 - intOf z).toNat)
      case atStart => exact ⟨y.lo, by omega, by omega, rfl, HM1, HW1, HK1⟩
      clear HM1 HW1 HK1 p0 p1 p2 p3
      obtain ⟨key, hk1, hk2, rfl, hM, hW, hK⟩ := hrel
      obtain ⟨p0, p1, p2, p3⟩ := hK.out.four
      by_cases hkh : key ≤ y.hi
      · have e1 : IntKind.i64.wrap (key + y.shift) = key + y.shift := IntWalk.i64_in _ (by omega)
        have hal : Below wr.heap.size wr (wr.alloc (.cells #[.int .i64 y.rank, .int .i64 (key + y.shift)] 46)) := (Below.refl _ _).alloc (Nat.le_refl _) _
        have HBp := Lib.hid (hK.out.below hal)
        have hmap := hM.out.below hal
        have HWp := Lib.hid (below_step hW.out hal)
        have kp := Blk.new wr 46 #[.int .i64 y.rank, .int .i64 (key + y.shift)]
        have HKP := Lib.hid kp
        obtain ⟨D, hmp, hrows⟩ := hmap.ex
        have HMAP := Lib.hid hmap
        have HRW := Lib.hid hrows
        obtain ⟨sb, hsb⟩ : ∃ sb, sb = (seenB x j (y.rank, key + y.shift) || upTo y key (y.rank, key + y.shift)) := ⟨_, rfl⟩
        have HGA := Lib.hid (show gK S i j x y key (y.rank, key + y.shift) = ub S.ss (y.rank, key + y.shift) i ++ if sb = true then [(i : Int)] else [] by unfold gK; rw [hsb])
        have hglen : (gK S i j x y key (y.rank, key + y.shift)).length ≤ 81 := by
          have h1 := ub_len (ss := S.ss) (p := (y.rank, key + y.shift)) (k := i)
          rw [HGA.out, List.length_append]
          split <;> simp <;> omega
        have HSB := Lib.hid hsb
        clear hsb hal hmap hM hW hK kp
        cases sb with
        | true =>
          have HM2 := Lib.hid (HMAP.out.congr (gK_seen hk1 HSB.out.symm))
          rcases hrows.row (y.rank, key + y.shift) with ⟨_, h2⟩ | ⟨v, hv1, hv2, hv3⟩
          · exact absurd (HGA.out.symm.trans h2) (by simp)
          · obtain ⟨gb, cap, hvv, hcell⟩ := row_last hv3 HGA.out
            subst hvv
            have hget : (mget (y.rank, key + y.shift) D).getD (.slice none 0 0) = .slice (some ⟨gb, 0, none⟩) (gK S i j x y key (y.rank, key + y.shift)).length cap := by rw [hv1]; rfl
            obtain ⟨n, hn⟩ : ∃ n, n = (gK S i j x y key (y.rank, key + y.shift)).length := ⟨_, rfl⟩
            rw [← hn] at hget hcell
            have hn0 : 0 < n := by rw [hn, HGA.out]; simp
            have hn81 : n ≤ 81 := by rw [hn]; exact hglen
            have b0 : ((n : Int) == 0) = false := by rw [beq_eq_false_iff_ne]; omega
            have en : ((n : Int) - 1).toNat = n - 1 := by omega
            have n1 : (1 : Int) ≤ (n : Int) := by omega
            have n2 : (n : Int) - 1 < (n : Int) := by omega
            have n3 : n - 1 < n := by omega
            have HGET := Lib.hid hget
            clear hv1 hv2 hv3 hn hrows
            go_wp2_with (at_lookup; refine wpList_lookup_mp _ rfl _ _ 90 rfl 47 pp_keys Tryd.underlying90 (Tryd.zeroValue47 _) rfl hmp (y.rank, key + y.shift) rfl ?_; rw [hget])
            go_roundw
            case rel => exact ⟨key + 1, by omega, by omega, rfl, HM2, HWp, HBp⟩
            case measure => simp [intOf]; omega
        | false =>
          have HNEW := Lib.hid (gK_new (S := S) (i := i) hk1 HSB.out.symm)
          rcases hrows.row (y.rank, key + y.shift) with ⟨h1, h2⟩ | ⟨v, hv1, hv2, hv3⟩
          · have hget : (mget (y.rank, key + y.shift) D).getD (.slice none 0 0) = .slice none 0 0 := by rw [h1]; rfl
            have HGET := Lib.hid hget
            have HV0 := Lib.hid (show (wr.alloc (.cells #[.int .i64 y.rank, .int .i64 (key + y.shift)] 46)).ownsRow (W0.heap.size + 1) 3 1 (.slice none 0 0) (gK S i j x y key (y.rank, key + y.shift)).length (iCs (gK S i j x y key (y.rank, key + y.shift))) by rw [h2]; exact World.ownsRow_nil _ _ _ _)
            clear h1 h2 hrows
            go_wp2_with (at_lookup; refine wpList_lookup_mp _ rfl _ _ 90 rfl 47 pp_keys Tryd.underlying90 (Tryd.zeroValue47 _) rfl hmp (y.rank, key + y.shift) rfl ?_; rw [hget])
            generalize wr.alloc (.cells #[.int .i64 y.rank, .int .i64 (key + y.shift)] 46) = Wp at *
            have kc0 := HKP.out.cell 0
            have kc1 := HKP.out.cell 1
            have ka0 := cell_alloc kc0
            have ka1 := cell_alloc kc1
            have hszp := HWp.out.size
            have hsz0 := HSZ.out
            have HMP := Lib.hid hmp
            clear hget hmp
            go_region_law ((refine step_append_lies _ rfl _ _ 47 rfl (W0.heap.size + 1) 3 j0 _ 1 8 Tryd.underlying47 hj0 jz0 jz1 jz2 rfl (by omega) _ _ _ rfl (HV0.out.alloc _) ⟨Wp.heap.size, 0, none⟩ 1 1 [.int .i64 i] rfl rfl (World.news_of_block (cs := #[.int .i64 i]) (t := 3) (fr := (0, 0)) (heap_alloc_new Wp _)) (by simp [Value.oneCell']) (by omega) (by unfold maxLen; omega) (by omega) (by simp; omega) (Wp.heap.size + 1) (by simp) ?_; intro gg cap3 w3 hown3 hgrow hat3 hlt3; obtain ⟨w4, hup, hsm, hlow, hblk⟩ := ShMap.upd (o := .cells #[.int .i64 i] 3) HMP.out HRW.out HGET.out HV0.out rfl ⟨hgrow.os, hgrow.tape, hgrow.output, hgrow.size, hgrow.block⟩ hown3 rfl hat3; have kd0 := ((hgrow.cell_far ⟨wr.heap.size, 0, none⟩ (by have := HKP.out.lt; simp; omega) (blk_ne_row (HKP.out.alloc (.cells #[.int .i64 i] 3)) (HV0.out.alloc _) (by decide))).trans (ka0 _)); have kd1 := ((hgrow.cell_far ⟨wr.heap.size, 1, none⟩ (by have := HKP.out.lt; simp; omega) (blk_ne_row (HKP.out.alloc (.cells #[.int .i64 i] 3)) (HV0.out.alloc _) (by decide))).trans (ka1 _))))
            all_goals
              have HM2 := Lib.hid (hsm.congr HNEW.out)
              have HB2 := Lib.hid (hlow W0 HWp.out (by omega) (by omega))
              have HK2 := Lib.hid (hblk Bp _ _ (by decide) HBp.out)
              clear hown3 hgrow hat3 hup hsm hlow hblk kd0 kd1
              go_wp2
              go_roundw
              case rel => exact ⟨key + 1, by omega, by omega, rfl, HM2, HB2, HK2⟩
              case measure => simp [intOf]; omega
          · have hne : gK S i j x y key (y.rank, key + y.shift) ≠ [] := hv2
            have hgu : gK S i j x y key (y.rank, key + y.shift) = ub S.ss (y.rank, key + y.shift) i := by rw [HGA.out]; simp
            obtain ⟨l', z, hlz⟩ : ∃ l' z, gK S i j x y key (y.rank, key + y.shift) = l' ++ [z] := ⟨_, _, (List.dropLast_concat_getLast hne).symm⟩
            have hzi : z < (i : Int) := by
              have hm : z ∈ ub S.ss (y.rank, key + y.shift) i := by rw [← hgu, hlz]; simp
              exact (ub_lt z hm).2
            obtain ⟨gb, cap, hvv, hcell⟩ := row_last hv3 hlz
            subst hvv
            have HV0 := Lib.hid hv3
            have hget : (mget (y.rank, key + y.shift) D).getD (.slice none 0 0) = .slice (some ⟨gb, 0, none⟩) (gK S i j x y key (y.rank, key + y.shift)).length cap := by rw [hv1]; rfl
            have HGET := Lib.hid hget
            have hn0 : 0 < (gK S i j x y key (y.rank, key + y.shift)).length := by rw [hlz]; simp
            have b0 : (((gK S i j x y key (y.rank, key + y.shift)).length : Int) == 0) = false := by rw [beq_eq_false_iff_ne]; omega
            have en : (((gK S i j x y key (y.rank, key + y.shift)).length : Int) - 1).toNat = (gK S i j x y key (y.rank, key + y.shift)).length - 1 := by omega
            have n1 : (1 : Int) ≤ ((gK S i j x y key (y.rank, key + y.shift)).length : Int) := by omega
            have n2 : ((gK S i j x y key (y.rank, key + y.shift)).length : Int) - 1 < ((gK S i j x y key (y.rank, key + y.shift)).length : Int) := by omega
            have n3 : (gK S i j x y key (y.rank, key + y.shift)).length - 1 < (gK S i j x y key (y.rank, key + y.shift)).length := by omega
            have b1 : (z == (i : Int)) = false := by rw [beq_eq_false_iff_ne]; omega
            have hiff : ∀ q, (ub S.ss q i = [] ∧ True) → True := fun _ _ => trivial
            clear hv1 hv2 hv3 hrows hne hgu hlz hiff
            go_wp2_with (at_lookup; refine wpList_lookup_mp _ rfl _ _ 90 rfl 47 pp_keys Tryd.underlying90 (Tryd.zeroValue47 _) rfl hmp (y.rank, key + y.shift) rfl ?_; rw [hget])
            clear b0 en n1 n2 n3 b1 hcell
            generalize wr.alloc (.cells #[.int .i64 y.rank, .int .i64 (key + y.shift)] 46) = Wp at *
            have kc0 := HKP.out.cell 0
            have kc1 := HKP.out.cell 1
            have ka0 := cell_alloc kc0
            have ka1 := cell_alloc kc1
            have hszp := HWp.out.size
            have hsz0 := HSZ.out
            have HMP := Lib.hid hmp
            clear hget hmp
            go_region_law ((refine step_append_lies _ rfl _ _ 47 rfl (W0.heap.size + 1) 3 j0 _ 1 8 Tryd.underlying47 hj0 jz0 jz1 jz2 rfl (by omega) _ _ _ rfl (HV0.out.alloc _) ⟨Wp.heap.size, 0, none⟩ 1 1 [.int .i64 i] rfl rfl (World.news_of_block (cs := #[.int .i64 i]) (t := 3) (fr := (0, 0)) (heap_alloc_new Wp _)) (by simp [Value.oneCell']) (by omega) (by unfold maxLen; omega) (by omega) (by simp; omega) (Wp.heap.size + 1) (by simp) ?_; intro gg cap3 w3 hown3 hgrow hat3 hlt3; obtain ⟨w4, hup, hsm, hlow, hblk⟩ := ShMap.upd (o := .cells #[.int .i64 i] 3) HMP.out HRW.out HGET.out HV0.out rfl ⟨hgrow.os, hgrow.tape, hgrow.output, hgrow.size, hgrow.block⟩ hown3 rfl hat3; have kd0 := ((hgrow.cell_far ⟨wr.heap.size, 0, none⟩ (by have := HKP.out.lt; simp; omega) (blk_ne_row (HKP.out.alloc (.cells #[.int .i64 i] 3)) (HV0.out.alloc _) (by decide))).trans (ka0 _)); have kd1 := ((hgrow.cell_far ⟨wr.heap.size, 1, none⟩ (by have := HKP.out.lt; simp; omega) (blk_ne_row (HKP.out.alloc (.cells #[.int .i64 i] 3)) (HV0.out.alloc _) (by decide))).trans (ka1 _))))
            all_goals
              have HM2 := Lib.hid (hsm.congr HNEW.out)
              have HB2 := Lib.hid (hlow W0 HWp.out (by omega) (by omega))
              have HK2 := Lib.hid (hblk Bp _ _ (by decide) HBp.out)
              clear hown3 hgrow hat3 hup hsm hlow hblk kd0 kd1
              go_wp2
              go_roundw
              case rel => exact ⟨key + 1, by omega, by omega, rfl, HM2, HB2, HK2⟩
              case measure => simp [intOf]; omega
      · have hke : key = y.hi + 1 := by omega
        have HM2 : RowKit.Hid (ShMap wr (W0.heap.size + 1) (w1.heap.size + 1) (fun p => ub S.ss p i ++ if seenB x (j + 1) p = true then [(i : Int)] else [])) := Lib.hid (hM.out.congr (fun p => by unfold gK; rw [upTo_end hke, seenB_succ hjt, HY.out]))
        clear hM hke
        go_wp2
        go_roundw
        case rel => exact ⟨j + 1, by omega, by go_num, HM2, hW⟩
        case measure => simp [intOf]; omega
    · have hje : j = x.parts.length := by omega
      have hkj : ¬ ((j : Int) < (x.parts.length : Int)) := by omega
      have HM2 : RowKit.Hid (ShMap wr (W0.heap.size + 1) (w1.heap.size + 1) (fun p => ub S.ss p (i + 1))) := Lib.hid (hM.out.congr (fun p => by rw [hje, seenB_all, HX.out, ub, usesAt_is hlt]))
      clear hM hje
      go_wp2
      go_roundw
      case rel => exact ⟨i + 1, by omega, by go_num, HM2, hW⟩
      case measure => simp [intOf]; omega
  · rename World => W1
    have hie : i = S.ss.length := by omega
    have hki : ¬ ((i : Int) < (S.ss.length : Int)) := by omega
    have hM2 := hM.out
    rw [hie] at hM2
    obtain ⟨D, hmp, hrows⟩ := hM2.ex
    have HRW := Lib.hid hrows
    have hnd := hmp.nodup
    have HD : RowKit.Hid (∀ p v, (p, v) ∈ D → mget p D = some v ∧ ub S.ss p S.ss.length ≠ [] ∧ W1.ownsRow (W0.heap.size + 1) 3 1 v (ub S.ss p S.ss.length).length (iCs (ub S.ss p S.ss.length)) ∧ slv (svOf D p) = v) := Lib.hid (fun p v hpv => by
      have hg := mget_of_mem hnd hpv
      rcases hrows.row p with ⟨h1, _⟩ | ⟨u, h1, h2, h3⟩
      · rw [h1] at hg; cases hg
      · rw [h1] at hg
        cases hg
        refine ⟨h1, h2, h3, ?_⟩
        unfold svOf
        rw [h1]
        rcases h3.2 with ⟨e, _⟩ | ⟨g, cap, cur, e, _⟩
        · rw [e]; rfl
        · rw [e]; rfl)
    have hDl : D.length ≤ 97 * 40 := by
      have h1 : (D.map (·.1)).length ≤ (allFrom 0 S.rs).length := nodup_len hnd (fun p hp => by
        obtain ⟨q, hq, rfl⟩ := List.mem_map.1 hp
        exact ub_in HG.out (HD.out q.1 q.2 hq).2.1)
      rw [List.length_map] at h1
      have := allFrom_len HG.out.r 0
      have := HG.out.rs
      omega
    have HND := Lib.hid hnd
    have HMD : RowKit.Hid (∀ p, 1 < (ub S.ss p S.ss.length).length → p ∈ D.map (·.1)) := Lib.hid (fun p hp => by
      rcases hrows.row p with ⟨_, h2⟩ | ⟨u, h1, _⟩
      · rw [h2] at hp; simp at hp
      · exact List.mem_map.2 ⟨_, mget_mem h1, rfl⟩)
    have HBW := Lib.hid (below_step HBA.out hW.out)
    have hsz1 := hW.out.size
    have hsz0 := HSZ.out
    obtain ⟨i0, hi0, hz0, hz1, hz2⟩ := info_parts sh_info
    clear hM hM2 hie hrows hnd hW
    go_wp2_with (at_range; refine wpList_range_mp _ rfl _ 90 rfl 46 47 Tryd.underlying90 rfl hmp ?_; intro w5 hrg5 hg5 hs5)
    try go_frame
    have hst : RowKit.Hid (w5.ownsRow (W1.heap.size + 1) 49 3 (.slice none 0 0) ((([] : List (Pp × Value)).map (·.1)).filter (longB S)).length (shCs (fun p => slv (svOf D p)) ((([] : List (Pp × Value)).map (·.1)).filter (longB S)))) := Lib.hid (World.ownsRow_nil _ _ _ _)
    have hrefl : RowKit.Hid (Below W1.heap.size W1 w5) := Lib.hid ⟨hg5.os, hg5.tape, hg5.output, hg5.size, fun k hk => hg5.block k hk (by simp)⟩
    have HRG5 := Lib.hid hrg5
    clear hg5 hrg5 hmp
    go_loopw [14] (fun v wi => ∃ done left : List (Pp × Value), RowKit.Hid (Rg ekP wi (w1.heap.size + 1) W1.heap.size D left) ∧ RowKit.Hid ((done ++ left).Perm D) ∧ RowKit.Hid (wi.ownsRow (W1.heap.size + 1) 49 3 v ((done.map (·.1)).filter (longB S)).length (shCs (fun p => slv (svOf D p)) ((done.map (·.1)).filter (longB S)))) ∧ RowKit.Hid (Below W1.heap.size W1 wi)) (fun _ wi => wi.rangeLeft (w1.heap.size + 1) W1.heap.size)
    case atStart => exact ⟨[], D, HRG5, Lib.hid (List.Perm.refl _), hst, hrefl⟩
    clear HRG5 hst hrefl
    obtain ⟨done, left, hrg, hperm, hout, hB⟩ := hrel
    have hdl : done.length ≤ 97 * 40 := by
      have := hperm.out.length_eq
      rw [List.length_append] at this
      omega
    have hfl : ((done.map (·.1)).filter (longB S)).length ≤ 97 * 40 := by
      have h1 := List.length_filter_le (longB S) (done.map (·.1))
      rw [List.length_map] at h1
      omega
    have hszB := hB.out.size
    go_wp2_with (at_next; refine wpList_next_mp _ rfl _ rfl rfl hrg.out ?_ ?_)
    · intro hleft
      have hp := hperm.out
      rw [hleft, List.append_nil] at hp
      have hpk : (done.map (·.1)).Perm (D.map (·.1)) := hp.map _
      have HSO := Lib.hid (sortS_any (svOf D) ((done.map (·.1)).filter (longB S)) (fun p hp' => share_sm HG.out (of_decide_eq_true (List.mem_filter.1 hp').2)) (by omega) (W1.heap.size + 1) u14 wr hout.out)
      have HGE := Lib.hid (fun j (e : u14.ownBlock = some j) => row_ge hout.out e)
      have HAP : RowKit.Hid (∀ r, u14.ownBlock = some r → ∀ (b : Nat) (t : TypeId) (n : Nat) (v : Value) (xs : List Value), wr.ownsRow b t 1 v n xs → t ≠ 49 → v.ownBlock ≠ some r) := Lib.hid (fun r e b t n v xs h ht => by
        rcases row_apart h hout.out ht with h | h
        · rw [h]; simp
        · rw [← e]; exact h)
      have HRO := Lib.hid (fun p (hp' : p ∈ shareL S) => by
        obtain ⟨q, hq, e⟩ := List.mem_map.1 (HMD.out p ((mem_shareL HG.out).1 hp'))
        obtain ⟨h1, h2, h3, h4⟩ := HD.out q.1 q.2 hq
        rw [e] at h1 h2 h3 h4
        rw [← h4] at h3
        exact row_later h3 hB.out : ∀ p ∈ shareL S, wr.ownsRow (W0.heap.size + 1) 3 1 (slv (svOf D p)) (ub S.ss p S.ss.length).length (iCs (ub S.ss p S.ss.length)))
      have HEQ : RowKit.Hid (∀ m : List Pp, m.Perm ((done.map (·.1)).filter (longB S)) → m.Pairwise ppLe → m = shareL S) := Lib.hid (fun m hm hs => by
        have hnd2 : m.Nodup := hm.nodup_iff.2 ((hpk.nodup_iff.2 HND.out).filter _)
        refine asc_ext (asc_of_sorted hs hnd2) (asc_shareL S) (fun p => ?_)
        rw [hm.mem_iff, List.mem_filter, mem_shareL HG.out]
        constructor
        · rintro ⟨_, h⟩
          exact of_decide_eq_true h
        · intro h
          exact ⟨hpk.mem_iff.2 (HMD.out p h), decide_eq_true h⟩)
      clear hrg hperm hout hp hpk hleft hdl hfl
      go_wp2_with fail
      refine (HSO.out).mono ?_
      rintro e w8 ⟨rfl, m, hm1, hm2, hm3, hg8⟩
      obtain rfl := HEQ.out m hm1 hm2
      have hb8 : Below W1.heap.size W1 w8 := hB.out.grown hg8 hB.out.size (fun j e => Nat.le_of_succ_le (HGE.out j e))
      have HO8 : RowKit.Hid (ShOut w8 w.heap.size u14 (shareL S) (fun p => ub S.ss p S.ss.length)) := Lib.hid ⟨fun p => slv (svOf D p), row_base hm3 (by have := HBW.out.size; omega), fun p hp' => by
        have h3 := HRO.out p hp'
        have h4 := h3.kept hg8 (by
          rcases h5 : u14.ownBlock with _ | r
          · cases h6 : (slv (svOf D p)).ownBlock with
            | none => exact .inl rfl
            | some g => exact .inr (by simp)
          · exact .inr (HAP.out r h5 _ _ _ _ _ h3 (by decide)))
        exact row_base h4 (by have := HBA.out.size; omega)⟩
      have HB8 : RowKit.Hid (Below w.heap.size w w8) := Lib.hid (below_step HBW.out hb8)
      clear hm1 hm2 hm3 hg8 hb8
      go_wp2
      go_ret2
      exact shEnds_some (u := u14) rfl HP.out HO8.out HB8.out
    · intro x1 x2 v w6 hin hrg6 hg6 hs6 hen
      have hinD := hrg.out.sub _ hin
      obtain ⟨hd1, hd2, hd3, hd4⟩ := HD.out (x1, x2) v hinD
      obtain ⟨av, cv, hav⟩ : ∃ a c, v = .slice a (ub S.ss (x1, x2) S.ss.length).length c := by
        rcases hd3.2 with ⟨e, e0⟩ | ⟨g, cap, cur, e, _⟩
        · exact ⟨none, 0, by rw [e, e0]⟩
        · exact ⟨_, _, e⟩
      have hul := ub_len (ss := S.ss) (p := (x1, x2)) (k := S.ss.length)
      have HSV := Lib.hid (show slv (svOf D (x1, x2)) = .slice av (ub S.ss (x1, x2) S.ss.length).length cv by rw [hd4, hav])
      have hps := perm_strike hrg.out.nodup hin
      have HPS := Lib.hid (show ((done ++ [((x1, x2), v)]) ++ left.filter fun p => !decide (p.1 = (x1, x2))).Perm D by
        refine List.Perm.trans ?_ hperm.out
        rw [List.append_assoc]
        exact (hps.symm.append_left done))
      have HLT := Lib.hid (show (left.filter fun p => !decide (p.1 = (x1, x2))).length < left.length by have := hps.length_eq; rw [List.length_cons] at this; omega)
      have HLE := Lib.hid hrg.out.left_eq
      have hB6 : Below W1.heap.size W1 w6 := hB.out.grown hg6 hB.out.size (fun j e => by cases e; exact Nat.le_refl _)
      have hout6 := hout.out.kept hg6 (.inr (Ne.symm (rg_ne_row hrg.out hout.out)))
      have hne : (x1, x2) ∉ (done.map (·.1)).filter (longB S) := fun hm => by
        have h1 := (hperm.out.map (·.1)).nodup_iff.2 HND.out
        rw [List.map_append, List.nodup_append] at h1
        exact h1.2.2 (x1, x2) (List.mem_filter.1 hm).1 (x1, x2) (List.mem_map.2 ⟨_, hin, rfl⟩) rfl
      subst hav
      obtain ⟨n, hn⟩ : ∃ n, n = (ub S.ss (x1, x2) S.ss.length).length := ⟨_, rfl⟩
      rw [← hn] at hul HSV hen HPS
      rw [← hn]
      have HN := Lib.hid hn
      clear hin hinD hd1 hd2 hd3 hd4 hps hn hrg hperm hout hB hs6
      unfold ekP at hen ⊢
      simp only at hen ⊢
      have hal : Below w6.heap.size w6 (w6.alloc (.cells #[.int .i64 x1, .int .i64 x2] 46)) := (Below.refl _ _).alloc (Nat.le_refl _) _
      have HRG7 := Lib.hid (hrg6.below hal)
      have HB7 := Lib.hid (below_step hB6 hal)
      have HO7 := Lib.hid (row_later hout6 hal)
      have hszB7 := HB7.out.size
      clear hrg6 hB6 hout6 hg6 hal
      by_cases hlong : 1 < n
      · have hd : decide ((1 : Int) < (n : Int)) = true := by rw [decide_eq_true_iff]; omega
        have HLB := Lib.hid (show longB S (x1, x2) = true by unfold longB; rw [← HN.out]; exact decide_eq_true hlong)
        clear hlong
        go_wp2_with (at_builtin; refine wpList_append_lies _ rfl _ _ 42 rfl (W1.heap.size + 1) 49 i0 _ 3 40 Tryd.underlying42 hi0 hz0 hz1 hz2 rfl (by omega) _ _ _ rfl (HO7.out.alloc _) ⟨w6.heap.size + 1, 0, none⟩ 1 1 [.int .i64 x1, .int .i64 x2, .slice av n cv] rfl (by simp) (World.news_of_block (cs := #[.int .i64 x1, .int .i64 x2, .slice av n cv]) (t := 49) (fr := (0, 0)) (by have := heap_alloc_new (w6.alloc (.cells #[.int .i64 x1, .int .i64 x2] 46)) (.cells #[.int .i64 x1, .int .i64 x2, .slice av n cv] 49); rwa [World.size_alloc] at this)) (by simp [Value.oneCell']) (by omega) (by unfold maxLen; omega) (by omega) (by simp at *; omega) (w6.heap.size + 1 + 1) (by simp) ?_; intro gg cap w8 hown8 hgrow hat8 hlt8)
        have HQ : RowKit.Hid (w8.ownsRow (W1.heap.size + 1) 49 3 (.slice (some ⟨gg, 0, none⟩) (((done.map (·.1)).filter (longB S)).length + 1) cap) (((done ++ [((x1, x2), Value.slice av n cv)]).map (·.1)).filter (longB S)).length (shCs (fun p => slv (svOf D p)) (((done ++ [((x1, x2), Value.slice av n cv)]).map (·.1)).filter (longB S)))) := by
          rw [lp_yes HLB.out, shCs_snoc, List.length_append, List.length_singleton, HSV.out]
          exact Lib.hid hown8
        have HB8 : RowKit.Hid (Below W1.heap.size W1 w8) := Lib.hid ((HB7.out.alloc HB7.out.size _).grown hgrow (by have := HB7.out.size; simp at this ⊢; omega) (fun j e => Nat.le_of_succ_le (row_ge HO7.out e)))
        have HG8 : RowKit.Hid (Rg ekP w8 (w1.heap.size + 1) W1.heap.size D (left.filter fun p => !decide (p.1 = (x1, x2)))) := Lib.hid (Rg.push HRG7.out HO7 hgrow)
        clear hown8 hgrow hat8
        refine ⟨⟨_, _, HG8, HPS, HQ, HB8⟩, ?_⟩
        rw [HG8.out.left_eq, HLE.out]
        exact HLT.out
      · have hd : decide ((1 : Int) < (n : Int)) = false := by rw [decide_eq_false_iff_not]; omega
        have HLB := Lib.hid (show longB S (x1, x2) = false by unfold longB; rw [← HN.out]; exact decide_eq_false hlong)
        have HQ : RowKit.Hid ((w6.alloc (.cells #[.int .i64 x1, .int .i64 x2] 46)).ownsRow (W1.heap.size + 1) 49 3 u14 (((done ++ [((x1, x2), Value.slice av n cv)]).map (·.1)).filter (longB S)).length (shCs (fun p => slv (svOf D p)) (((done ++ [((x1, x2), Value.slice av n cv)]).map (·.1)).filter (longB S)))) := by
          rw [lp_no HLB.out]
          exact HO7
        clear hlong
        go_wp2
        refine ⟨⟨_, _, HRG7, HPS, HQ, HB7⟩, ?_⟩
        rw [HRG7.out.left_eq, HLE.out]
        exact HLT.out
set_option maxRecDepth 100000 in
set_option maxHeartbeats 3200000 in
theorem shared_bad (v1 v2 v3 v4 : Value) (S : Sp) (ok : SpOk S) (w : World) (t : Tabs w) (f : Nat → Value) (hsp : SpRd w v1 v2 v3 v4 f S) (hz : (checkP S).2 ≠ 0) :
    Calls Tryd.prog 15 #[.agg #[v1, v2, v3, v4]] w (ShEnds (sharedP S) w) := by
  have hb0 : Below w.heap.size w (w.alloc (.cells #[v1, v2, v3, v4] 27)) := (Below.refl _ w).alloc (Nat.le_refl _) _
  have HC := Lib.hid (check_any v1 v2 v3 v4 S ok _ (t.below hb0) f (hsp.later hb0))
  have HP := Lib.hid (show sharedP S = ([], (checkP S).2) by unfold sharedP; rw [if_neg hz])
  obtain ⟨er, her⟩ : ∃ er, er = (checkP S).2 := ⟨_, rfl⟩
  obtain ⟨fl, hfl⟩ : ∃ fl, fl = (checkP S).1 := ⟨_, rfl⟩
  have hcv : ckV (checkP S) = .tuple #[.agg #[.int .i64 fl.1, .int .i64 fl.2.1, .int .i64 fl.2.2], .int .i64 er] := by unfold ckV; rw [her, hfl]
  rw [hcv] at HC
  rw [← her] at HP hz
  have b1 : (er == 0) = false := beq_eq_false_iff_ne.2 hz
  clear hcv her hfl hz ok hsp
  go_enter Tryd.func15, Tryd.ntmps15
  go_wp2_with fail
  refine (HC.out).mono ?_
  rintro e w1 ⟨rfl, hb1⟩
  have hb := below_step hb0 hb1
  go_wp2
  go_ret2
  exact shEnds_none rfl HP.out (hb.alloc hb.size _)
theorem shared_any (v1 v2 v3 v4 : Value) (S : Sp) (ok : SpOk S) (w : World) (t : Tabs w) (f : Nat → Value) (hsp : SpRd w v1 v2 v3 v4 f S) :
    Calls Tryd.prog 15 #[.agg #[v1, v2, v3, v4]] w (ShEnds (sharedP S) w) := by
  by_cases hz : (checkP S).2 = 0
  · exact shared_good v1 v2 v3 v4 S ok w t f hsp hz
  · exact shared_bad v1 v2 v3 v4 S ok w t f hsp hz
end Go.Proofs.YtkddeliifadcoaaDoor
