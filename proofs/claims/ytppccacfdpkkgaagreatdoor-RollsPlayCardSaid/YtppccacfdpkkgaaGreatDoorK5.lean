/-
  CONTRACTS: roll: a paper as it is told.
-/
import Derived.Test.YtppccacfdpkkgaaGreatDoorK4
import Derived.Deep.RegionLaw
namespace Go.Proofs.YtppccacfdpkkgaaGreatDoor
open Go.RowKit
def vC (v : Value) : List Value := [v]
theorem vC_len (v : Value) : (vC v).length = 1 := rfl
def nilV : Value := .slice none 0 0
theorem ints_info : (Tryz.prog.info? 74).map (fun i => (i.zero, i.size, i.bytes)) = some (some (.slice none 0 0), 1, 24) := by kernel_rfl
theorem int_info : (Tryz.prog.info? 3).map (fun i => (i.zero, i.size, i.bytes)) = some (some (.int .i64 0), 1, 8) := by kernel_rfl
/-- make([][]int, n). -/
theorem make_lists (n : Nat) (hn : n ≤ 1000000) : ∀ w : World, (Instr.makeSlice 34 (.int .i64 (n : Int)) (.int .i64 (n : Int))).run Tryz.prog w = .ok (.slice (some ⟨w.heap.size, 0, none⟩) n n) (w.alloc (.cells (madeCells (vC nilV).toArray (n * 1)) 74)) := by
  intro w
  obtain ⟨i0, hi, hz0, hz1, hz2⟩ := info_parts ints_info
  have := run_make_rowN (P := Tryz.prog) 34 74 i0 _ Tryz.underlying34 hi hz0 .i64 .i64 n n (Nat.le_refl _) (by rw [hz2]; omega) (by omega) w
  rw [hz1] at this
  exact this
structure RlInv (tr : Nat) (qs : List Rw) (w wr : World) (GS RB : Nat) (i t : Nat) (vs : List Value) (lim : Nat) : Prop where
  len : vs.length = qs.length
  en : EnB wr 74 1 vC GS qs.length vs
  rb : Blk wr RB 36 #[.int .i64 tr, .slice (some ⟨GS, 0, none⟩) qs.length qs.length]
  res : Blk wr w.heap.size 36 #[.int .i64 0, .slice none 0 0]
  done : ∀ j (hj : j < vs.length) (hq : j < qs.length), j < i → wr.ownsRow w.heap.size 3 1 vs[j] (told (hole qs[j]) tr).length (iCs (told (hole qs[j]) tr)) ∧ ∀ g, vs[j].ownBlock = some g → g < lim
  now : ∀ (hj : i < vs.length) (hq : i < qs.length), wr.ownsRow lim 3 1 vs[i] (told (hole qs[i]) t).length (iCs (told (hole qs[i]) t))
  rest : ∀ j (hj : j < vs.length), i < j → vs[j] = .slice none 0 0
  b : Below w.heap.size w wr
  lim1 : w.heap.size ≤ lim
  lim2 : lim ≤ wr.heap.size
  gs : w.heap.size ≤ GS
theorem Blk.ne {W : World} {B B' : Nat} {t t' : TypeId} {cs cs' : Array Value} (h : Blk W B t cs) (h' : Blk W B' t' cs') (ht : t ≠ t') : B ≠ B' := by
  intro e
  subst e
  have e1 : W.heap[B]? = some (.cells cs t (0, 0)) := h
  have e2 : W.heap[B]? = some (.cells cs' t' (0, 0)) := h'
  rw [e1] at e2
  injection e2 with e3
  injection e3 with _ e4
  exact ht e4
theorem EnB.set1 {W : World} {t : TypeId} {g cap : Nat} {m : List Value} (h : EnB W t 1 vC g cap m) {i : Nat} (hi : i < m.length) (v : Value) : EnB (W.setCell ⟨g, i, none⟩ v) t 1 vC g cap (m.set i v) := by
  obtain ⟨⟨cur, hk, hz, hx⟩, hn⟩ := h
  refine ⟨⟨_, hk.set i v, by simpa using hz, ?_⟩, by simpa using hn⟩
  rw [List.length_set]
  refine flat_set (k := 1) vC_len m i v _ hi ?_ ?_
  · rw [List.length_take, Array.length_toList]; simp; omega
  · intro q hq2
    rw [List.getElem?_take, if_pos hq2, Array.getElem?_toList, Array.getElem?_setIfInBounds, ← hx, List.getElem?_take, if_pos hq2, Array.getElem?_toList]
    have hcs : i < cur.size := by omega
    by_cases e1 : i = q
    · subst e1
      rw [if_pos rfl, if_pos hcs, if_pos (by omega), Nat.mul_one, Nat.sub_self]
      rfl
    · rw [if_neg e1, if_neg (by omega)]
      simp
theorem blk_ne_row {W : World} {B : Nat} {t : TypeId} {cs : Array Value} {base : Nat} {t2 : TypeId} {k n : Nat} {v : Value} {xs : List Value} (hb : Blk W B t cs) (h : W.ownsRow base t2 k v n xs) (ht : t ≠ t2) : v.ownBlock ≠ some B := by
  rcases h.2 with ⟨rfl, _⟩ | ⟨g, cap, cur, rfl, _, hg, _⟩
  · simp [Value.ownBlock]
  · intro e
    have : g = B := by simpa [Value.ownBlock] using e
    rw [this, show W.heap[B]? = _ from hb] at hg
    cases hg
    exact ht rfl
theorem Blk.grown {W W' : World} {B : Nat} {t : TypeId} {cs : Array Value} {row : Option Nat} (h : Blk W B t cs) (hg : W.grownBy W' row) (hne : row ≠ some B) : Blk W' B t cs := (hg.block B h.lt (fun e => hne e.symm)).trans h
theorem EnB.blk {α : Type} {W : World} {t : TypeId} {k g cap : Nat} {enc : α → List Value} {m : List α} (h : EnB W t k enc g cap m) : ∃ cur, Blk W g t cur := by
  obtain ⟨⟨cur, hb, _⟩, _⟩ := h
  exact ⟨cur, hb⟩
theorem RlInv.below {tr : Nat} {qs : List Rw} {w wr w' : World} {GS RB i t : Nat} {vs : List Value} {lim : Nat} (h : RlInv tr qs w wr GS RB i t vs lim) (hb : Below wr.heap.size wr w') : RlInv tr qs w w' GS RB i t vs lim where
  len := h.len
  en := h.en.below hb
  rb := h.rb.below hb
  res := h.res.below hb
  done j hj hq hlt := ⟨row_later (h.done j hj hq hlt).1 hb, (h.done j hj hq hlt).2⟩
  now hj hq := row_later (h.now hj hq) hb
  rest := h.rest
  b := h.b.trans (hb.mono h.b.size)
  lim1 := h.lim1
  lim2 := Nat.le_trans h.lim2 hb.size
  gs := h.gs
theorem RlInv.skip {tr : Nat} {qs : List Rw} {w wr : World} {GS RB i t : Nat} {vs : List Value} {lim : Nat} (h : RlInv tr qs w wr GS RB i t vs lim) (hq : i < qs.length) (hh : hole qs[i] t = false) : RlInv tr qs w wr GS RB i (t + 1) vs lim where
  len := h.len
  en := h.en
  rb := h.rb
  res := h.res
  done := h.done
  now hj hq := by
    have := h.now hj hq
    rw [told, if_neg (by rw [hh]; decide), List.append_nil]
    exact this
  rest := h.rest
  b := h.b
  lim1 := h.lim1
  lim2 := h.lim2
  gs := h.gs
theorem own_lt {W : World} {base : Nat} {t : TypeId} {k n : Nat} {v : Value} {xs : List Value} (h : W.ownsRow base t k v n xs) {g : Nat} (e : v.ownBlock = some g) : g < W.heap.size := by
  rcases h.2 with ⟨rfl, _⟩ | ⟨g', cap, cur, rfl, _, hg, _⟩
  · simp [Value.ownBlock] at e
  · have : g' = g := by simpa [Value.ownBlock] using e
    subst this
    exact (Array.getElem?_eq_some_iff.1 hg).1
theorem RlInv.next {tr : Nat} {qs : List Rw} {w wr : World} {GS RB i : Nat} {vs : List Value} {lim : Nat} (h : RlInv tr qs w wr GS RB i tr vs lim) : RlInv tr qs w wr GS RB (i + 1) 0 vs wr.heap.size where
  len := h.len
  en := h.en
  rb := h.rb
  res := h.res
  done j hj hq hlt := by
    by_cases e : j = i
    · subst e
      exact ⟨row_base (h.now hj hq) h.lim1, fun g e => own_lt (h.now hj hq) e⟩
    · have := h.done j hj hq (by omega)
      exact ⟨this.1, fun g e => Nat.lt_of_lt_of_le (this.2 g e) h.lim2⟩
  now hj hq := by
    rw [h.rest (i + 1) hj (by omega)]
    exact World.ownsRow_nil _ _ _ _
  rest j hj hlt := h.rest j hj (by omega)
  b := h.b
  lim1 := h.b.size
  lim2 := Nat.le_refl _
  gs := h.gs
theorem set_grown (w : World) (b i : Nat) (v : Value) : w.grownBy (w.setCell ⟨b, i, none⟩ v) (some b) :=
  ⟨rfl, rfl, rfl, by simp [World.setCell], fun k _ hne => (Below.heap_setCell w ⟨b, i, none⟩ v k (fun e => hne (by rw [e])))⟩
theorem RlInv.push {tr : Nat} {qs : List Rw} {w wr w3 : World} {GS RB i t : Nat} {vs : List Value} {lim : Nat} (h : RlInv tr qs w wr GS RB i t vs lim) (hi : i < vs.length) (hq : i < qs.length) (hh : hole qs[i] t = true) {o : Obj} {gg n cap : Nat} {v : Value} (hv : vs[i] = v)
    (hg : (wr.alloc o).grownBy w3 v.ownBlock) (hrow : w3.ownsRow lim 3 1 (.slice (some ⟨gg, 0, none⟩) n cap) n (iCs (told (hole qs[i]) t) ++ [.int .i64 t])) (hn : n = (told (hole qs[i]) t).length + 1) :
    RlInv tr qs w (w3.setCell ⟨GS, i, none⟩ (.slice (some ⟨gg, 0, none⟩) n cap)) GS RB i (t + 1) (vs.set i (.slice (some ⟨gg, 0, none⟩) n cap)) lim := by
  subst hv
  have hal : Below wr.heap.size wr (wr.alloc o) := (Below.refl _ _).alloc (Nat.le_refl _) _
  have h0 := h.below hal
  have hnow := h0.now hi hq
  obtain ⟨cur, hgs⟩ := h0.en.blk
  have hne1 := blk_ne_row hgs hnow (by decide)
  have hne2 := blk_ne_row h0.rb hnow (by decide)
  have hne3 := blk_ne_row h0.res hnow (by decide)
  have hgs3 := hgs.grown hg hne1
  have hS := set_grown w3 GS i (.slice (some ⟨gg, 0, none⟩) n cap)
  have hb3 : Below w.heap.size w w3 := h0.b.grown hg h0.b.size (fun j e => Nat.le_trans h0.lim1 (row_ge hnow e))
  have hgg : lim ≤ gg := row_ge hrow rfl
  refine ⟨by rw [List.length_set]; exact h.len, ?_, (h0.rb.grown hg hne2).kept' hS ?_, (h0.res.grown hg hne3).kept' hS ?_, ?_, ?_, ?_, hb3.grown hS hb3.size (fun j e => by cases e; exact h.gs), h.lim1, ?_, h.gs⟩
  · exact EnB.set1 (h0.en.kept hg (fun e => hne1 e.symm)) hi _
  · exact h0.rb.ne hgs (by decide)
  · exact h0.res.ne hgs (by decide)
  · intro j hj hjq hlt
    rw [List.length_set] at hj
    rw [List.getElem_set_ne (by omega)]
    obtain ⟨d1, d2⟩ := h0.done j hj hjq hlt
    refine ⟨(d1.kept hg ?_).kept hS ?_, d2⟩
    · cases e : vs[j].ownBlock with
      | none => exact .inl rfl
      | some g =>
        refine .inr fun e2 => ?_
        have a1 := d2 g e
        have a2 := row_ge hnow (e2.symm)
        omega
    · exact .inr (blk_ne_row hgs d1 (by decide))
  · intro hj hjq
    rw [List.getElem_set_self, told, if_pos hh, List.length_append, List.length_singleton, ← hn, iCs_snoc]
    exact hrow.kept hS (.inr (blk_ne_row hgs3 hrow (by decide)))
  · intro j hj hlt
    rw [List.length_set] at hj
    rw [List.getElem_set_ne (by omega)]
    exact h.rest j hj hlt
  · have a1 := h0.lim2
    have a2 := hg.size
    have a3 := hS.size
    omega
theorem RlInv.app {tr : Nat} {qs : List Rw} {w wr w3 : World} {GS RB i t : Nat} {vs : List Value} {lim : Nat} (h : RlInv tr qs w wr GS RB i t vs lim) (hi : i < vs.length) (hq : i < qs.length) (hh : hole qs[i] t = true) {o : Obj} {gg n cap : Nat} {v : Value} (hv : vs[i] = v)
    {BX : Nat} {bcs : Array Value} (hbx : Blk wr BX 89 bcs)
    (hg : (wr.alloc o).grownBy w3 v.ownBlock) (hrow : w3.ownsRow lim 3 1 (.slice (some ⟨gg, 0, none⟩) n cap) n (iCs (told (hole qs[i]) t) ++ [.int .i64 t])) (hn : n = (told (hole qs[i]) t).length + 1) :
    w3.cell? ⟨GS, i, none⟩ = some v ∧ w3.frozen? ⟨GS, i, none⟩ = false ∧ w3.cell? ⟨RB, 1, none⟩ = some (.slice (some ⟨GS, 0, none⟩) qs.length qs.length) ∧
    RowKit.Hid (RlInv tr qs w (w3.setCell ⟨GS, i, none⟩ (.slice (some ⟨gg, 0, none⟩) n cap)) GS RB i (t + 1) (vs.set i (.slice (some ⟨gg, 0, none⟩) n cap)) lim) ∧
    RowKit.Hid (Blk (w3.setCell ⟨GS, i, none⟩ (.slice (some ⟨gg, 0, none⟩) n cap)) BX 89 bcs) := by
  have hal : Below wr.heap.size wr (wr.alloc o) := (Below.refl _ _).alloc (Nat.le_refl _) _
  have h0 := h.below hal
  have hnow := h0.now hi hq
  obtain ⟨cur, hgs⟩ := h0.en.blk
  have hg' := hg
  rw [← hv] at hg'
  have hc0 := (h0.en.cell vC_len (by exact hi) (j := 0) (u := v) (by rw [hv]; rfl)).1
  rw [Nat.mul_one, Nat.add_zero, hgs.cell] at hc0
  have k3 := hgs.grown hg' (blk_ne_row hgs hnow (by decide))
  have hbx2 := hbx.below hal
  refine ⟨(k3.cell i).trans hc0, k3.frozen i, (h0.rb.grown hg' (blk_ne_row h0.rb hnow (by decide))).cell 1, Lib.hid (h.push hi hq hh hv hg hrow hn), Lib.hid ?_⟩
  exact (hbx2.grown hg' (blk_ne_row hbx2 hnow (by decide))).kept' (set_grown _ _ _ _) (hbx2.ne hgs (by decide))
theorem told_len (f : Nat → Bool) : ∀ t, (told f t).length ≤ t
  | 0 => Nat.le_refl _
  | t + 1 => by
    have := told_len f t
    rw [told, List.length_append]
    split
    · rw [List.length_singleton]; omega
    · rw [List.length_nil]; omega
theorem rl_start {tr : Nat} {qs : List Rw} {w w1 w3 : World} {GS RB : Nat} (hb1 : Below w.heap.size w w1) (hx : Blk w1 w.heap.size 36 #[.int .i64 0, .slice none 0 0]) (hb : Below w1.heap.size w1 w3) (hen : EnB w3 74 1 vC GS qs.length (List.replicate qs.length (.slice none 0 0))) (hrb : Blk w3 RB 36 #[.int .i64 tr, .slice (some ⟨GS, 0, none⟩) qs.length qs.length]) (hgs : w.heap.size ≤ GS) :
    RlInv tr qs w w3 GS RB 0 0 (List.replicate qs.length (.slice none 0 0)) w1.heap.size where
  len := List.length_replicate
  en := hen
  rb := hrb
  res := hx.below hb
  done j _ _ h := absurd h (Nat.not_lt_zero j)
  now hj hq := by
    rw [List.getElem_replicate]
    exact World.ownsRow_nil _ _ _ _
  rest j hj _ := List.getElem_replicate _
  b := hb1.trans (hb.mono hb1.size)
  lim1 := hb1.size
  lim2 := hb.size
  gs := hgs
theorem rl_start_a {tr : Nat} {qs : List Rw} {w w1 : World} (hb1 : Below w.heap.size w w1) (hx : Blk w1 w.heap.size 36 #[.int .i64 0, .slice none 0 0]) :
    RlInv tr qs w ((w1.alloc (.cells (madeCells (vC (.slice none 0 0)).toArray qs.length) 74)).alloc (.cells #[.int .i64 tr, .slice (some ⟨w1.heap.size, 0, none⟩) qs.length qs.length] 36)).drew w1.heap.size (w1.heap.size + 1) 0 0 (List.replicate qs.length (.slice none 0 0)) w1.heap.size := by
  have h1 := made_enB w1 74 (enc := vC) (.slice none 0 0) vC_len (by decide) qs.length
  rw [Nat.mul_one] at h1
  have hb2 : Below w1.heap.size w1 (w1.alloc (.cells (madeCells (vC (.slice none 0 0)).toArray qs.length) 74)) := (Below.refl _ _).alloc (Nat.le_refl _) _
  have hs2 : (w1.alloc (.cells (madeCells (vC (.slice none 0 0)).toArray qs.length) 74)).heap.size = w1.heap.size + 1 := by simp
  generalize w1.alloc (.cells (madeCells (vC (.slice none 0 0)).toArray qs.length) 74) = w2 at *
  have hb3 : Below w2.heap.size w2 (w2.alloc (.cells #[.int .i64 tr, .slice (some ⟨w1.heap.size, 0, none⟩) qs.length qs.length] 36)) := (Below.refl _ _).alloc (Nat.le_refl _) _
  have hp := Blk.new w2 36 #[.int .i64 tr, .slice (some ⟨w1.heap.size, 0, none⟩) qs.length qs.length]
  rw [hs2] at hp
  have hb4 := hb2.trans (hb3.mono hb2.size)
  exact rl_start hb1 hx ⟨hb4.os, hb4.tape, hb4.output, hb4.size, hb4.block⟩ (EnB.drewN (h1.below hb3) 1) hp hb1.size
theorem rl_start_b {tr : Nat} {qs : List Rw} {w w1 : World} (hb1 : Below w.heap.size w w1) (hx : Blk w1 w.heap.size 36 #[.int .i64 0, .slice none 0 0]) :
    RlInv tr qs w ((w1.alloc (.cells #[.int .i64 tr, .slice (some ⟨w1.heap.size + 1, 0, none⟩) qs.length qs.length] 36)).alloc (.cells (madeCells (vC (.slice none 0 0)).toArray qs.length) 74)).drew (w1.heap.size + 1) w1.heap.size 0 0 (List.replicate qs.length (.slice none 0 0)) w1.heap.size := by
  have hp := Blk.new w1 36 #[.int .i64 tr, .slice (some ⟨w1.heap.size + 1, 0, none⟩) qs.length qs.length]
  have hb2 : Below w1.heap.size w1 (w1.alloc (.cells #[.int .i64 tr, .slice (some ⟨w1.heap.size + 1, 0, none⟩) qs.length qs.length] 36)) := (Below.refl _ _).alloc (Nat.le_refl _) _
  have hs2 : (w1.alloc (.cells #[.int .i64 tr, .slice (some ⟨w1.heap.size + 1, 0, none⟩) qs.length qs.length] 36)).heap.size = w1.heap.size + 1 := by simp
  generalize w1.alloc (.cells #[.int .i64 tr, .slice (some ⟨w1.heap.size + 1, 0, none⟩) qs.length qs.length] 36) = w2 at *
  have hb3 : Below w2.heap.size w2 (w2.alloc (.cells (madeCells (vC (.slice none 0 0)).toArray qs.length) 74)) := (Below.refl _ _).alloc (Nat.le_refl _) _
  have h1 := made_enB w2 74 (enc := vC) (.slice none 0 0) vC_len (by decide) qs.length
  rw [Nat.mul_one, hs2] at h1
  have hb4 := hb2.trans (hb3.mono hb2.size)
  exact rl_start hb1 hx ⟨hb4.os, hb4.tape, hb4.output, hb4.size, hb4.block⟩ (EnB.drewN h1 1) (Blk.drewN (hp.below hb3) 1) (Nat.le_trans hb1.size (Nat.le_succ _))
/-- Another world is alike from a block on. -/
def SameFrom (base : Nat) (W w2 : World) : Prop := W.heap.size ≤ w2.heap.size ∧ ∀ k, base ≤ k → k < W.heap.size → w2.heap[k]? = W.heap[k]?
theorem sameFrom_grown {base b : Nat} {W w2 : World} (h : b < base) (hg : W.grownBy w2 (some b)) : SameFrom base W w2 := ⟨hg.size, fun k hk hl => hg.block k hl (fun e => by have := Option.some.inj e; omega)⟩
theorem SameFrom.row {base : Nat} {W w2 : World} (h : SameFrom base W w2) {t : TypeId} {k n : Nat} {v : Value} {xs : List Value} (hr : W.ownsRow base t k v n xs) : w2.ownsRow base t k v n xs := by
  refine ⟨hr.1, ?_⟩
  rcases hr.2 with hn | ⟨g, cap, cur, e, hg, hb, r⟩
  · exact .inl hn
  · exact .inr ⟨g, cap, cur, e, hg, (h.2 g hg (Array.getElem?_eq_some_iff.1 hb).1).trans hb, r⟩
theorem SameFrom.enB {α : Type} {base : Nat} {W w2 : World} (h : SameFrom base W w2) {t : TypeId} {k g cap : Nat} {enc : α → List Value} {m : List α} (hr : EnB W t k enc g cap m) (hg : base ≤ g) : EnB w2 t k enc g cap m := by
  obtain ⟨⟨cur, hb, r⟩, hl⟩ := hr
  exact ⟨⟨cur, (h.2 g hg (Array.getElem?_eq_some_iff.1 hb).1).trans hb, r⟩, hl⟩
/-- How roll ends. -/
def RlEnds (tr : Nat) (qs : List Rw) (w : World) (e : Ending) (w' : World) : Prop := ∃ v f, e = .returned (.agg #[.int .i64 tr, v]) ∧ RoRd w' v f ⟨tr, qs.map fun q => told (hole q) tr⟩ ∧ Below w.heap.size w w' ∧ ∀ (w2 : World), SameFrom w.heap.size w' w2 → RoRd w2 v f ⟨tr, qs.map fun q => told (hole q) tr⟩
theorem rl_rd {tr : Nat} {qs : List Rw} {w F : World} {GS : Nat} {vs : List Value} (hlen : vs.length = qs.length) (hen : EnB F 74 1 vC GS qs.length vs) (hrow : ∀ i (hi : i < vs.length) (hq : i < qs.length), F.ownsRow w.heap.size 3 1 vs[i] (told (hole qs[i]) tr).length (iCs (told (hole qs[i]) tr))) :
    RoRd F (.slice (some ⟨GS, 0, none⟩) qs.length qs.length) (fun i => vs.getD i (.slice none 0 0)) ⟨tr, qs.map fun q => told (hole q) tr⟩ := by
  refine ⟨⟨_, _, by rw [List.length_mapIdx, List.length_map], fun i hi => ⟨GS, 0, rfl, hen.lt, fun j u hj => ?_⟩⟩, fun i hi => ?_⟩
  · rw [List.length_mapIdx, List.length_map] at hi
    rw [List.getElem_mapIdx, getD_at (by rw [hlen]; exact hi)] at hj
    rw [Nat.zero_add]
    exact (hen.cell vC_len (by rw [hlen]; exact hi) hj).1
  · simp only [List.length_map] at hi
    rw [getD_at (by rw [hlen]; exact hi)]
    simp only [List.getElem_map]
    exact ARd.of_ints (hrow i (by rw [hlen]; exact hi) hi)
theorem RlInv.fin {tr : Nat} {qs : List Rw} {w wr : World} {GS RB : Nat} {vs : List Value} {lim : Nat} {a b : Value} (h : RlInv tr qs w wr GS RB qs.length 0 vs lim) :
    ((wr.setCell ⟨w.heap.size, 0, none⟩ a).setCell ⟨w.heap.size, 1, none⟩ b).cell? ⟨w.heap.size, 0, none⟩ = some a ∧ ((wr.setCell ⟨w.heap.size, 0, none⟩ a).setCell ⟨w.heap.size, 1, none⟩ b).cell? ⟨w.heap.size, 1, none⟩ = some b ∧
    RoRd ((wr.setCell ⟨w.heap.size, 0, none⟩ a).setCell ⟨w.heap.size, 1, none⟩ b) (.slice (some ⟨GS, 0, none⟩) qs.length qs.length) (fun i => vs.getD i (.slice none 0 0)) ⟨tr, qs.map fun q => told (hole q) tr⟩ ∧ Below w.heap.size w ((wr.setCell ⟨w.heap.size, 0, none⟩ a).setCell ⟨w.heap.size, 1, none⟩ b) ∧
    ∀ (w2 : World), SameFrom w.heap.size ((wr.setCell ⟨w.heap.size, 0, none⟩ a).setCell ⟨w.heap.size, 1, none⟩ b) w2 → RoRd w2 (.slice (some ⟨GS, 0, none⟩) qs.length qs.length) (fun i => vs.getD i (.slice none 0 0)) ⟨tr, qs.map fun q => told (hole q) tr⟩ := by
  have hk := (h.res.set 0 a).set 1 b
  have hg : wr.grownBy ((wr.setCell ⟨w.heap.size, 0, none⟩ a).setCell ⟨w.heap.size, 1, none⟩ b) (some w.heap.size) := (set_grown wr w.heap.size 0 a).trans (set_grown _ w.heap.size 1 b)
  obtain ⟨cur, hgs⟩ := h.en.blk
  have hen := h.en.kept hg (fun e => hgs.ne h.res (by decide) (Option.some.inj e))
  have hrow : ∀ i (hi : i < vs.length) (hq : i < qs.length), ((wr.setCell ⟨w.heap.size, 0, none⟩ a).setCell ⟨w.heap.size, 1, none⟩ b).ownsRow w.heap.size 3 1 vs[i] (told (hole qs[i]) tr).length (iCs (told (hole qs[i]) tr)) := fun i hi hq => by
    have hd := (h.done i hi hq hq).1
    exact hd.kept hg (.inr (blk_ne_row h.res hd (by decide)))
  refine ⟨hk.cell 0, hk.cell 1, rl_rd h.len hen hrow, h.b.grown hg h.b.size (fun j e => by cases e; exact Nat.le_refl _), fun w2 hs => rl_rd h.len (hs.enB hen h.gs) (fun i hi hq => hs.row (hrow i hi hq))⟩
set_option maxRecDepth 100000 in
set_option maxHeartbeats 6400000 in
theorem roll_any (tr : Nat) (htr : tr ≤ 128) (base P : Nat) (pv : Value) (qs : List Rw) (hn : qs.length ≤ 20000) (w : World) (hp : Pap w base P tr pv qs) :
    Calls Tryz.prog 35 #[.pointer (some ⟨P, 0, none⟩)] w (RlEnds tr qs w) := by
  obtain ⟨pa, pc, rfl⟩ := hp.form
  have HP := Lib.hid hp
  have hmk := make_lists qs.length (by omega)
  have hb0 : Below w.heap.size w (w.alloc (.cells #[.int .i64 0, .slice none 0 0] 36)) := (Below.refl _ _).alloc (Nat.le_refl _) _
  have HB0 := Lib.hid hb0
  have HX0 := Lib.hid (Blk.new w 36 #[.int .i64 0, .slice none 0 0])
  have c0 : (w.alloc (.cells #[.int .i64 0, nilV] 36)).cell? ⟨P, 0, none⟩ = some (.int .i64 tr) := (hp.below hb0).p.cell 0
  have c1 : (w.alloc (.cells #[.int .i64 0, nilV] 36)).cell? ⟨P, 1, none⟩ = some (.slice pa qs.length pc) := (hp.below hb0).p.cell 1
  unfold nilV at c0 c1 hmk
  clear hp hb0
  go_enter Tryz.func35, Tryz.ntmps35
  go_wp2
  generalize w.alloc (.cells #[.int .i64 0, .slice none 0 0] 36) = w1 at *
  have d0 := cell_alloc c0
  have d1 := cell_alloc c1
  have e0 := fun o => cell_alloc (d0 o)
  have e1 := fun o => cell_alloc (d1 o)
  go_region
  all_goals go_wp2
  all_goals
    clear d0 d1 e0 e1 c0 c1 hmk
  all_goals first
    | (obtain ⟨GS, RB, hGS, hRB⟩ : ∃ GS RB, w1.heap.size = GS ∧ w1.heap.size + 1 = RB := ⟨_, _, rfl, rfl⟩
       have HI0 := Lib.hid (rl_start_a (tr := tr) (qs := qs) HB0.out HX0.out)
       rw [hRB, hGS] at HI0 ⊢
       clear hRB hGS
       go_loopw [23] (fun x wr => ∃ (i : Nat) (vs : List Value) (lim : Nat), i ≤ qs.length ∧ x = .int .i64 i ∧ RowKit.Hid (RlInv tr qs w wr GS RB i 0 vs lim)) (fun x _ => qs.length - (intOf x).toNat)
       case atStart => exact ⟨0, _, _, by omega, rfl, HI0⟩)
    | (obtain ⟨GS, RB, hGS, hRB⟩ : ∃ GS RB, w1.heap.size + 1 = GS ∧ w1.heap.size = RB := ⟨_, _, rfl, rfl⟩
       have HI0 := Lib.hid (rl_start_b (tr := tr) (qs := qs) HB0.out HX0.out)
       rw [hGS, hRB] at HI0 ⊢
       clear hRB hGS
       go_loopw [23] (fun x wr => ∃ (i : Nat) (vs : List Value) (lim : Nat), i ≤ qs.length ∧ x = .int .i64 i ∧ RowKit.Hid (RlInv tr qs w wr GS RB i 0 vs lim)) (fun x _ => qs.length - (intOf x).toNat)
       case atStart => exact ⟨0, _, _, by omega, rfl, HI0⟩)
  all_goals
    clear HI0
    obtain ⟨i, vs, lim, hi, rfl, hI⟩ := hrel
    by_cases hlt : i < qs.length
    · have hi2 : (i : Int) < (qs.length : Int) := by omega
      obtain ⟨G, cap, ev, hpb⟩ := (HP.out.below hI.out.b).b (by omega)
      obtain ⟨q0, q1⟩ := rwB_cells hpb.r hlt
      have c0 : wr.cell? ⟨P, 0, none⟩ = some (.int .i64 tr) := hpb.p.cell 0
      have c1 : wr.cell? ⟨P, 1, none⟩ = some (.slice (some ⟨G, 0, none⟩) qs.length cap) := by rw [← ev]; exact (HP.out.below hI.out.b).p.cell 1
      have d0 := cell_alloc c0
      cases ev
      have HOK := Lib.hid (hpb.ok _ (List.getElem_mem hlt))
      have HBX := Lib.hid (Blk.new wr 89 #[.int .u64 qs[i].1, .int .u64 qs[i].2])
      have HI1 := Lib.hid (hI.out.below ((Below.refl _ wr).alloc (Nat.le_refl _) (.cells #[.int .u64 qs[i].1, .int .u64 qs[i].2] 89)))
      clear hpb hI
      go_wp2
      clear c0 c1 d0 q0 q1
      go_loopw [32] (fun x wi => ∃ (t : Nat) (vs : List Value), t ≤ tr ∧ x = .int .i64 t ∧ RowKit.Hid (RlInv tr qs w wi GS RB i t vs lim) ∧ RowKit.Hid (Blk wi wr.heap.size 89 #[.int .u64 qs[i].1, .int .u64 qs[i].2])) (fun x _ => tr - (intOf x).toNat)
      case atStart => exact ⟨0, _, by omega, rfl, HI1, HBX⟩
      clear HI1 HBX
      rename World => Wr
      obtain ⟨t, vs, ht, rfl, hI, hB⟩ := hrel
      by_cases hlt2 : t < tr
      · have ht2 : (t : Int) < (tr : Int) := by omega
        have b0 := hB.out.cell 0
        have b1 := hB.out.cell 1
        obtain ⟨bb, hbb⟩ : ∃ bb, hasB qs[i] (t : Int) = bb := ⟨_, rfl⟩
        have hbb2 : hole qs[i] t = bb := by rw [← hbb, hasB_at (by omega)]
        have HBB := Lib.hid hbb
        have HBB2 := Lib.hid hbb2
        clear hbb hbb2
        cases bb with
        | false =>
          go_wp2_with (go_at_call 64; refine (has_any qs[i] HOK.out t false HBB.out _).mono ?_; rintro e w' ⟨rfl, hb2⟩; have HI2 := Lib.hid ((hI.out.below hb2).skip hlt HBB2.out); have HB2 := Lib.hid (hB.out.below hb2); clear hb2)
          go_roundw
          case rel => exact ⟨t + 1, vs, by omega, by go_num, HI2, HB2⟩
          case measure => simp [intOf]; omega
        | true =>
          go_wp2_with (go_at_call 64; refine (has_any qs[i] HOK.out t true HBB.out _).mono ?_; rintro e w' ⟨rfl, hb2⟩; have HI2 := Lib.hid (hI.out.below hb2); have HB2 := Lib.hid (hB.out.below hb2); clear hb2)
          clear hI hB b0 b1
          have hvi : i < vs.length := by rw [HI2.out.len]; exact hlt
          obtain ⟨v, hv⟩ : ∃ v, vs[i] = v := ⟨_, rfl⟩
          have HV0 : RowKit.Hid (w'.ownsRow lim 3 1 v (told (hole qs[i]) t).length (iCs (told (hole qs[i]) t))) := Lib.hid (by have := HI2.out.now hvi hlt; rwa [hv] at this)
          obtain ⟨cur, hgs⟩ := HI2.out.en.blk
          have hc0 := (HI2.out.en.cell vC_len hvi (j := 0) (u := v) (by rw [hv]; rfl)).1
          rw [Nat.mul_one, Nat.add_zero] at hc0
          have hcur : cur[i]? = some v := by rw [← hgs.cell i]; exact hc0
          have HV := Lib.hid hv
          have HVI := Lib.hid hvi
          have HGS := Lib.hid hgs
          have HCUR := Lib.hid hcur
          have r1 : w'.cell? ⟨RB, 1, none⟩ = some (.slice (some ⟨GS, 0, none⟩) qs.length qs.length) := HI2.out.rb.cell 1
          have r2 := cell_alloc r1
          have g2 := cell_alloc hc0
          have f0 := hgs.frozen i
          have hle := told_len (hole qs[i]) t
          have hlim := HI2.out.lim2
          clear hv hgs hcur
          obtain ⟨j0, hj0, jz0, jz1, jz2⟩ := info_parts int_info
          go_region_law ((refine step_append_lies _ rfl _ _ 74 rfl lim 3 j0 _ 1 8 Tryz.underlying74 hj0 jz0 jz1 jz2 rfl (by omega) _ _ _ rfl (HV0.out.alloc _) ⟨w'.heap.size, 0, none⟩ 1 1 [.int .i64 t] rfl rfl (World.news_of_block (cs := #[.int .i64 t]) (t := 3) (fr := (0, 0)) (heap_alloc_new w' _)) (by simp [Value.oneCell']) (by omega) (by unfold maxLen; omega) (by omega) (by simp; omega) (w'.heap.size + 1) (by simp) ?_; intro gg cap3 w3 hown3 hgrow hat3 hlt3; obtain ⟨k5, k6, k7, HI3, HB3⟩ := HI2.out.app HVI.out hlt HBB2.out HV.out HB2.out ⟨hgrow.os, hgrow.tape, hgrow.output, hgrow.size, hgrow.block⟩ hown3 rfl))
          all_goals
            clear hown3 hgrow hat3 hlt3 k5 k6 k7 r1 r2 g2 f0 hc0
            go_wp2
            go_roundw
            case rel => exact ⟨t + 1, _, by omega, by go_num, HI3, HB3⟩
            case measure => simp [intOf]; omega
      · have hte : t = tr := by omega
        have ht2 : ¬ ((t : Int) < (tr : Int)) := by omega
        have HI2 := Lib.hid (show RlInv tr qs w Wr GS RB (i + 1) 0 vs Wr.heap.size by have := hI.out; rw [hte] at this; exact this.next)
        clear hte hI
        go_wp2
        go_roundw
        case rel => exact ⟨i + 1, vs, _, by omega, by go_num, HI2⟩
        case measure => simp [intOf]; omega
    · have hie : i = qs.length := by omega
      have hi2 : ¬ ((i : Int) < (qs.length : Int)) := by omega
      have s0 := hI.out.res.cell 0
      have s1 := hI.out.res.cell 1
      have f0 := hI.out.res.frozen 0
      have f1 := hI.out.res.frozen 1
      have t0 := hI.out.rb.cell 0
      have t1 := hI.out.rb.cell 1
      have HE : RowKit.Hid (RlInv tr qs w wr GS RB qs.length 0 vs lim) := by rw [← hie]; exact hI
      clear hie hI
      go_wp2
      obtain ⟨c0, c1, hrd, hbl, hrk⟩ := HE.out.fin
      refine bodyPost_ret (v := .agg #[.int .i64 tr, .slice (some ⟨GS, 0, none⟩) qs.length qs.length]) (by simp [results, Tryz.results35, go_sem, c0, c1]) rfl ⟨_, _, rfl, hrd, hbl, hrk⟩
/-- A roll in a box. -/
def BoxRo (W wx : World) (B : Nat) (R : Ro) : Prop := ∃ v g, Blk wx B 36 #[.int .i64 R.tracks, v] ∧ RoRd wx v g R ∧ Below W.heap.size W wx
theorem BoxRo.below {W wx w' : World} {B : Nat} {R : Ro} (h : BoxRo W wx B R) (hb : Below wx.heap.size wx w') : BoxRo W w' B R := by
  obtain ⟨v, g, h1, h2, h3⟩ := h
  exact ⟨v, g, h1.below hb, h2.later hb, below_step h3 hb⟩
theorem box_late {W w3 : World} {R : Ro} {v : Value} {g : Nat → Value} (hb : Below W.heap.size W w3) (hr : RoRd w3 v g R) : BoxRo W (w3.alloc (.cells #[.int .i64 R.tracks, v] 36)) w3.heap.size R := by
  have h1 := (Below.refl w3.heap.size w3).alloc (Nat.le_refl _) (.cells #[.int .i64 R.tracks, v] 36)
  exact ⟨v, g, Blk.new w3 _ _, hr.later h1, below_step hb h1⟩
theorem box_early {W wm w3 : World} {R : Ro} {v : Value} {g : Nat → Value} {B : Nat} {a c : Value} (hb : Below W.heap.size W w3) (hs : ∀ w2, SameFrom wm.heap.size w3 w2 → RoRd w2 v g R) (hk : Blk w3 B 36 #[a, c]) (h1 : W.heap.size ≤ B) (h2 : B < wm.heap.size) : BoxRo W ((w3.setCell ⟨B, 0, none⟩ (.int .i64 R.tracks)).setCell ⟨B, 1, none⟩ v) B R := by
  have hg := (set_grown w3 B 0 (.int .i64 R.tracks)).trans (set_grown _ B 1 v)
  exact ⟨v, g, (hk.set 0 _).set 1 _, hs _ (sameFrom_grown h2 hg), hb.grown hg hb.size (fun j e => by cases e; exact h1)⟩
abbrev zRoll : Obj := .cells #[.int .i64 0, .slice none 0 0] 36
end Go.Proofs.YtppccacfdpkkgaaGreatDoor
