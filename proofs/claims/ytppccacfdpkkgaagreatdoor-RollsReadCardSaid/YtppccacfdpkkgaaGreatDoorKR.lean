/-
  ROWS OF EVENTS while the reference reads: appended to beside a row of slots; two neighbours swapped. ROWS OF EVENTS while the reference sorts them in place. CONTRACTS: the reference's Read, on the roads with errors.
-/
import Derived.Test.YtppccacfdpkkgaaGreatDoorK20
import Derived.Test.YtppccacfdpkkgaaGreatDoorK24
import Derived.Test.YtppccacfdpkkgaaGreatDoorK34
import Derived.Deep.QuietTactic
import Derived.BigQuiet
import Derived.BigRegion
import Derived.Deep.RegionWith
namespace Go.Proofs.YtppccacfdpkkgaaGreatDoor
open Go.RowKit
abbrev EvRow (W : World) (base : Nat) (u : Value) (l : List Ev) : Prop := W.ownsRow base 68 5 u l.length (l.map evC5).flatten
theorem evC5_len (e : Ev) : (evC5 e).length = 5 := rfl
theorem EnB.set5 {W : World} {t : TypeId} {g cap : Nat} {m : List Ev} (h : EnB W t 5 evC5 g cap m) {i : Nat} (hi : i < m.length) (y : Ev) :
    EnB (((((W.setCell ⟨g, i * 5, none⟩ (.int .i64 y.1)).setCell ⟨g, i * 5 + 1, none⟩ (.int .i64 y.2.1)).setCell ⟨g, i * 5 + 2, none⟩ (.int .i64 y.2.2.1)).setCell ⟨g, i * 5 + 3, none⟩ (.int .i64 y.2.2.2.1)).setCell ⟨g, i * 5 + 4, none⟩ (.int .i64 y.2.2.2.2)) t 5 evC5 g cap (m.set i y) := by
  obtain ⟨x, hx⟩ : ∃ x, m[i] = x := ⟨_, rfl⟩
  have h0 := h.setk evC5_len hi (j := 0) (by omega) (v := .int .i64 y.1) (y := (y.1, x.2)) (by rw [hx]; rfl)
  have h1 := h0.setk evC5_len (i := i) (by simpa using hi) (j := 1) (by omega) (v := .int .i64 y.2.1) (y := (y.1, y.2.1, x.2.2)) (by rw [List.getElem_set_self]; rfl)
  have h2 := h1.setk evC5_len (i := i) (by simpa using hi) (j := 2) (by omega) (v := .int .i64 y.2.2.1) (y := (y.1, y.2.1, y.2.2.1, x.2.2.2)) (by rw [List.getElem_set_self]; rfl)
  have h3 := h2.setk evC5_len (i := i) (by simpa using hi) (j := 3) (by omega) (v := .int .i64 y.2.2.2.1) (y := (y.1, y.2.1, y.2.2.1, y.2.2.2.1, x.2.2.2.2)) (by rw [List.getElem_set_self]; rfl)
  have h4 := h3.setk evC5_len (i := i) (by simpa using hi) (j := 4) (by omega) (v := .int .i64 y.2.2.2.2) (y := y) (by rw [List.getElem_set_self]; rfl)
  simp only [List.set_set] at h4
  exact h4
theorem mul_small {a rt : Int} (h0 : 0 ≤ a) (h1 : a ≤ 20000) (h2 : 1 ≤ rt) (h3 : rt ≤ 1000) : 0 ≤ a * rt ∧ a * rt ≤ 20000000 := by
  have k1 : 0 ≤ a * rt := Int.mul_nonneg h0 (by omega)
  have k2 : a * rt ≤ 20000 * 1000 := Int.mul_le_mul h1 h3 (by omega) (by omega)
  exact ⟨k1, by omega⟩
theorem swap_is {m : List Ev} {k : Nat} (hk : k < m.length) (hk1 : k - 1 < m.length) : (m.set k m[k - 1]).set (k - 1) m[k] = swap m k := by
  unfold swap
  rw [getD_at hk, getD_at hk1]
/-- While the slots of a thing are read: the events so far, and the slots in a row aside. -/
structure RvInv (W0 : World) (bl : Nat) (u lv : Value) (E : List Ev) (l : List (Nat × Nat)) (W : World) : Prop where
  out : EvRow W W0.heap.size u E
  sl : SlRow W bl lv l
  ap : lv.ownBlock = none ∨ lv.ownBlock ≠ u.ownBlock
  b : Below W0.heap.size W0 W
theorem RvInv.start {W0 W W' : World} {u lv : Value} {E : List Ev} {l : List (Nat × Nat)} (hE : EvRow W W0.heap.size u E) (hb : Below W0.heap.size W0 W) (hW : Below W.heap.size W W') (hs : SlRow W' W.heap.size lv l) : RvInv W0 W.heap.size u lv E l W' := by
  refine ⟨row_later hE hW, hs, ?_, below_step hb hW⟩
  cases h : lv.ownBlock with
  | none => exact .inl rfl
  | some j =>
    right
    intro e
    have h1 := (hs.lt j h).1
    have h2 := (hE.lt j e.symm).2
    omega
theorem RvInv.low {W0 W W' : World} {bl : Nat} {u lv : Value} {E : List Ev} {l : List (Nat × Nat)} (h : RvInv W0 bl u lv E l W) (hb : Below W.heap.size W W') : RvInv W0 bl u lv E l W' :=
  ⟨row_later h.out hb, row_later h.sl hb, h.ap, below_step h.b hb⟩
/-- A block aside is written. -/
theorem RvInv.aside {W0 W W' : World} {bl X : Nat} {u lv : Value} {E : List Ev} {l : List (Nat × Nat)} (h : RvInv W0 bl u lv E l W) (hg : W.grownBy W' (some X)) (hu : u.ownBlock ≠ some X) (hl : lv.ownBlock ≠ some X) (hX : W0.heap.size ≤ X) : RvInv W0 bl u lv E l W' :=
  ⟨h.out.kept hg (.inr hu), h.sl.kept hg (.inr hl), h.ap, h.b.grown hg h.b.size (fun j e => by cases e; exact hX)⟩
theorem ev_push {E : List Ev} {e : Ev} {W : World} {b g cap n : Nat} (hn : n = E.length + 1) (h : W.ownsRow b 68 5 (.slice (some ⟨g, 0, none⟩) n cap) n ((E.map evC5).flatten ++ [.int .i64 e.1, .int .i64 e.2.1, .int .i64 e.2.2.1, .int .i64 e.2.2.2.1, .int .i64 e.2.2.2.2])) : EvRow W b (.slice (some ⟨g, 0, none⟩) n cap) (E ++ [e]) := by
  unfold EvRow
  rw [List.length_append, List.length_singleton, ← hn, List.map_append, List.flatten_append]
  exact h
/-- An event is appended; W is the world ahead of it, o the event laid for the append. -/
theorem RvInv.push {W0 W w3 : World} {bl : Nat} {u lv : Value} {E : List Ev} {l : List (Nat × Nat)} (h : RvInv W0 bl u lv E l W) {o : Obj} {e : Ev} {g cap n : Nat} (hn : n = E.length + 1) (hown : w3.ownsRow W0.heap.size 68 5 (.slice (some ⟨g, 0, none⟩) n cap) n ((E.map evC5).flatten ++ [.int .i64 e.1, .int .i64 e.2.1, .int .i64 e.2.2.1, .int .i64 e.2.2.2.1, .int .i64 e.2.2.2.2])) (hg : (W.alloc o).grownBy w3 u.ownBlock) (hat : u.ownBlock = some g ∨ g = W.heap.size + 1) :
    RvInv W0 bl (.slice (some ⟨g, 0, none⟩) n cap) lv (E ++ [e]) l w3 := by
  refine ⟨ev_push hn hown, ?_, ?_, push_low h.b h.out hg⟩
  · exact World.ownsRow.kept (h.sl.alloc o) hg h.ap
  · rcases h.ap with h1 | h1
    · exact .inl h1
    · right
      show lv.ownBlock ≠ some g
      intro e1
      rcases hat with h2 | h2
      · exact h1 (e1.trans h2.symm)
      · have := (h.sl.lt g e1).2
        omega
/-- A block of the call's own, aside of an append. -/
theorem Blk.besides {W w3 : World} {X : Nat} {t : TypeId} {cs : Array Value} {o : Obj} {row : Option Nat} (h : Blk W X t cs) (hne : some X ≠ row) (hg : (W.alloc o).grownBy w3 row) : Blk w3 X t cs := by
  have h0 : Blk (W.alloc o) X t cs := h.alloc o
  exact (hg.block X (Array.getElem?_eq_some_iff.1 h0).1 hne).trans h0
/-- .. and an event in a block aside, which is filled. -/
structure RvX (W0 : World) (bl : Nat) (u lv : Value) (E : List Ev) (l : List (Nat × Nat)) (X : Nat) (e : Ev) (W : World) : Prop where
  inv : RvInv W0 bl u lv E l W
  x : Blk W X 68 #[.int .i64 e.1, .int .i64 e.2.1, .int .i64 e.2.2.1, .int .i64 e.2.2.2.1, .int .i64 e.2.2.2.2]
  ux : u.ownBlock ≠ some X
  lx : lv.ownBlock ≠ some X
  wx : W0.heap.size ≤ X
theorem RvX.new {W0 W : World} {bl : Nat} {u lv : Value} {E : List Ev} {l : List (Nat × Nat)} (h : RvInv W0 bl u lv E l W) (e : Ev) : RvX W0 bl u lv E l W.heap.size e ((W.alloc (.cells #[.int .i64 e.1, .int .i64 e.2.1, .int .i64 e.2.2.1, .int .i64 e.2.2.2.1, .int .i64 e.2.2.2.2] 68)).drew) :=
  ⟨h.low (below_drew ((Below.refl _ _).alloc (Nat.le_refl _) _)), Blk.new W _ _, fun q => Nat.lt_irrefl _ (h.out.lt _ q).2, fun q => Nat.lt_irrefl _ (h.sl.lt _ q).2, h.b.size⟩
theorem RvX.set {W0 W : World} {bl X : Nat} {u lv : Value} {E : List Ev} {l : List (Nat × Nat)} {e : Ev} (h : RvX W0 bl u lv E l X e W) (a b : Int) : RvX W0 bl u lv E l X (a, e.2.1, e.2.2.1, e.2.2.2.1, b) ((W.setCell ⟨X, 0, none⟩ (.int .i64 a)).setCell ⟨X, 4, none⟩ (.int .i64 b)).drew := by
  have hg := (set_grown W X 0 (.int .i64 a)).trans (set_grown _ X 4 (.int .i64 b))
  have hg' : W.grownBy ((W.setCell ⟨X, 0, none⟩ (.int .i64 a)).setCell ⟨X, 4, none⟩ (.int .i64 b)).drew (some X) := ⟨hg.os, hg.tape, hg.output, hg.size, hg.block⟩
  exact ⟨h.inv.aside hg' h.ux h.lx h.wx, (h.x.set 0 (.int .i64 a)).set 4 (.int .i64 b), h.ux, h.lx, h.wx⟩
theorem RvX.push {W0 W w3 : World} {bl X : Nat} {u lv : Value} {E : List Ev} {l : List (Nat × Nat)} {e : Ev} (h : RvX W0 bl u lv E l X e W) {o : Obj} {g cap n : Nat} (hn : n = E.length + 1) (hown : w3.ownsRow W0.heap.size 68 5 (.slice (some ⟨g, 0, none⟩) n cap) n ((E.map evC5).flatten ++ [.int .i64 e.1, .int .i64 e.2.1, .int .i64 e.2.2.1, .int .i64 e.2.2.2.1, .int .i64 e.2.2.2.2])) (hg : (W.alloc o).grownBy w3 u.ownBlock) (hat : u.ownBlock = some g ∨ g = W.heap.size + 1) :
    RvX W0 bl (.slice (some ⟨g, 0, none⟩) n cap) lv (E ++ [e]) l X e w3 := by
  refine ⟨h.inv.push hn hown hg hat, h.x.besides (fun q => h.ux q.symm) hg, ?_, h.lx, h.wx⟩
  show some g ≠ some X
  intro q
  rcases hat with h2 | h2
  · exact h.ux (h2.trans q)
  · have := h.x.lt
    have := Option.some.inj q
    omega
theorem RvX.len {W0 W : World} {bl X : Nat} {u lv : Value} {E : List Ev} {l : List (Nat × Nat)} {e : Ev} (h : RvX W0 bl u lv E l X e W) {L : Nat} (hL : E.length = L) : W.ownsRow W0.heap.size 68 5 u L (E.map evC5).flatten := by
  rw [← hL]
  exact h.inv.out
theorem RvX.slot {W0 W : World} {bl X gs n lc : Nat} {u : Value} {E : List Ev} {l : List (Nat × Nat)} {e : Ev} (h : RvX W0 bl u (.slice (some ⟨gs, 0, none⟩) n lc) E l X e W) {i : Nat} (hi : i < l.length) : W.cell? ⟨gs, i * 2, none⟩ = some (.int .i64 l[i].1) ∧ W.cell? ⟨gs, i * 2 + 1, none⟩ = some (.int .i64 l[i].2) := by
  have hEn := (EnB.of_row (enc := slC) (m := l) h.inv.sl).1
  have q0 := (hEn.cell slC_len hi (j := 0) (u := .int .i64 l[i].1) rfl).1
  have q1 := (hEn.cell slC_len hi (j := 1) (u := .int .i64 l[i].2) rfl).1
  exact ⟨q0, q1⟩
/-- A row of events of the call's own, its block known. -/
structure SoB (W0 : World) (g cap : Nat) (m : List Ev) (W : World) : Prop where
  row : EnB W 68 5 evC5 g cap m
  g0 : W0.heap.size ≤ g
  b : Below W0.heap.size W0 W
theorem SoB.low {W0 W W' : World} {g cap : Nat} {m : List Ev} (h : SoB W0 g cap m W) (hb : Below W.heap.size W W') : SoB W0 g cap m W' := ⟨h.row.below hb, h.g0, below_step h.b hb⟩
theorem SoB.at {W0 W : World} {g cap : Nat} {m : List Ev} (h : SoB W0 g cap m W) {k : Nat} (hk : k < m.length) :
    (W.cell? ⟨g, k * 5, none⟩ = some (.int .i64 m[k].1) ∧ W.cell? ⟨g, k * 5 + 1, none⟩ = some (.int .i64 m[k].2.1) ∧ W.cell? ⟨g, k * 5 + 2, none⟩ = some (.int .i64 m[k].2.2.1) ∧ W.cell? ⟨g, k * 5 + 3, none⟩ = some (.int .i64 m[k].2.2.2.1) ∧ W.cell? ⟨g, k * 5 + 4, none⟩ = some (.int .i64 m[k].2.2.2.2)) ∧
    (W.frozen? ⟨g, k * 5, none⟩ = false ∧ W.frozen? ⟨g, k * 5 + 1, none⟩ = false ∧ W.frozen? ⟨g, k * 5 + 2, none⟩ = false ∧ W.frozen? ⟨g, k * 5 + 3, none⟩ = false ∧ W.frozen? ⟨g, k * 5 + 4, none⟩ = false) := by
  have c0 := h.row.cell evC5_len hk (j := 0) rfl
  have c1 := h.row.cell evC5_len hk (j := 1) rfl
  have c2 := h.row.cell evC5_len hk (j := 2) rfl
  have c3 := h.row.cell evC5_len hk (j := 3) rfl
  have c4 := h.row.cell evC5_len hk (j := 4) rfl
  exact ⟨⟨c0.1, c1.1, c2.1, c3.1, c4.1⟩, ⟨c0.2, c1.2, c2.2, c3.2, c4.2⟩⟩
/-- .. and an event in a block aside. -/
structure SoX (W0 : World) (g cap : Nat) (m : List Ev) (X : Nat) (e : Ev) (W : World) : Prop where
  s : SoB W0 g cap m W
  x : Blk W X 68 #[.int .i64 e.1, .int .i64 e.2.1, .int .i64 e.2.2.1, .int .i64 e.2.2.2.1, .int .i64 e.2.2.2.2]
  ne : g ≠ X
theorem SoX.new {W0 W : World} {g cap : Nat} {m : List Ev} (h : SoB W0 g cap m W) (e : Ev) : SoX W0 g cap m W.heap.size e (W.alloc (.cells #[.int .i64 e.1, .int .i64 e.2.1, .int .i64 e.2.2.1, .int .i64 e.2.2.2.1, .int .i64 e.2.2.2.2] 68)) :=
  ⟨h.low ((Below.refl _ _).alloc (Nat.le_refl _) _), Blk.new W _ _, Nat.ne_of_lt h.row.lt⟩
/-- Five cells are written. -/
abbrev put5 (W : World) (g k : Nat) (y : Ev) : World := ((((W.setCell ⟨g, k * 5, none⟩ (.int .i64 y.1)).setCell ⟨g, k * 5 + 1, none⟩ (.int .i64 y.2.1)).setCell ⟨g, k * 5 + 2, none⟩ (.int .i64 y.2.2.1)).setCell ⟨g, k * 5 + 3, none⟩ (.int .i64 y.2.2.2.1)).setCell ⟨g, k * 5 + 4, none⟩ (.int .i64 y.2.2.2.2)
theorem put5_grown (W : World) (g k : Nat) (y : Ev) : W.grownBy (put5 W g k y) (some g) :=
  ((((set_grown W g (k * 5) (.int .i64 y.1)).trans (set_grown _ g (k * 5 + 1) (.int .i64 y.2.1))).trans (set_grown _ g (k * 5 + 2) (.int .i64 y.2.2.1))).trans (set_grown _ g (k * 5 + 3) (.int .i64 y.2.2.2.1))).trans (set_grown _ g (k * 5 + 4) (.int .i64 y.2.2.2.2))
theorem SoB.put {W0 W : World} {g cap : Nat} {m : List Ev} (h : SoB W0 g cap m W) {k : Nat} (hk : k < m.length) (y : Ev) : SoB W0 g cap (m.set k y) (put5 W g k y) :=
  ⟨h.row.set5 hk y, h.g0, h.b.grown (put5_grown W g k y) h.b.size (fun j e => by cases e; exact h.g0)⟩
theorem SoX.put {W0 W : World} {g cap X : Nat} {m : List Ev} {e : Ev} (h : SoX W0 g cap m X e W) {k : Nat} (hk : k < m.length) (y : Ev) : SoX W0 g cap (m.set k y) X e (put5 W g k y) :=
  ⟨h.s.put hk y, h.x.grown (put5_grown W g k y) (fun q => h.ne (Option.some.inj q)), h.ne⟩
theorem SoB.ev {W0 W : World} {g cap n : Nat} {m : List Ev} (h : SoB W0 g cap m W) (hn : m.length = n) (hc : cap ≤ maxLen) : EvRow W W0.heap.size (.slice (some ⟨g, 0, none⟩) n cap) m := by
  rw [← hn]
  exact h.row.row evC5_len h.g0 hc
set_option maxRecDepth 100000 in
set_option maxHeartbeats 3200000 in
theorem rread_bad (v1 v2 v3 v4 : Value) (S : Sp) (ok : SpOk S) (f : Nat → Value) (R : Ro) (rok : RoOk R) (rv : Value) (g : Nat → Value) (rt : Int) (th : List Th) (vt : Value) (least gap : Int) (w : World) (hsp : SpRd w v1 v2 v3 v4 f S) (hr : RoRd w rv g R) (hl : th.length ≤ 1000000) (hth : ARd w vt 3 (th.map thC))
    (hne : rdErr S R rt th least gap ≠ 0) :
    Calls Tryz.prog 16 #[.agg #[v1, v2, v3, v4], .agg #[.int .i64 R.tracks, rv], .agg #[.int .i64 rt, vt], .agg #[.int .i64 least, .int .i64 gap]] w (RdBad (rdErr S R rt th least gap) w) := by
  obtain ⟨at', ct, rfl⟩ := hth.thForm
  have HR := Lib.hid hr
  have HSP := Lib.hid hsp
  have HOK := Lib.hid ok
  have HRO := Lib.hid rok
  have HTH := Lib.hid hth
  have HNE := Lib.hid hne
  have hb0 : Below w.heap.size w ((((w.alloc (.cells #[v1, v2, v3, v4] 27)).alloc (.cells #[.int .i64 R.tracks, rv] 36)).alloc (.cells #[.int .i64 rt, .slice at' th.length ct] 31)).alloc (.cells #[.int .i64 least, .int .i64 gap] 43)) := (((((Below.refl w.heap.size w).alloc (Nat.le_refl _) _).alloc (by simp) _).alloc (by simp; omega) _).alloc (by simp; omega) _)
  have k1 := (((Blk.new w 27 #[v1, v2, v3, v4]).alloc (.cells #[.int .i64 R.tracks, rv] 36)).alloc (.cells #[.int .i64 rt, .slice at' th.length ct] 31)).alloc (.cells #[.int .i64 least, .int .i64 gap] 43)
  have k2 := ((Blk.new (w.alloc (.cells #[v1, v2, v3, v4] 27)) 36 #[.int .i64 R.tracks, rv]).alloc (.cells #[.int .i64 rt, .slice at' th.length ct] 31)).alloc (.cells #[.int .i64 least, .int .i64 gap] 43)
  have k3 := (Blk.new ((w.alloc (.cells #[v1, v2, v3, v4] 27)).alloc (.cells #[.int .i64 R.tracks, rv] 36)) 31 #[.int .i64 rt, .slice at' th.length ct]).alloc (.cells #[.int .i64 least, .int .i64 gap] 43)
  have k4 := Blk.new (((w.alloc (.cells #[v1, v2, v3, v4] 27)).alloc (.cells #[.int .i64 R.tracks, rv] 36)).alloc (.cells #[.int .i64 rt, .slice at' th.length ct] 31)) 43 #[.int .i64 least, .int .i64 gap]
  rw [World.size_alloc] at k2
  rw [World.size_alloc, World.size_alloc] at k3
  rw [World.size_alloc, World.size_alloc, World.size_alloc] at k4
  have HB0 := Lib.hid hb0
  have K1 := Lib.hid k1
  have K2 := Lib.hid k2
  have K3 := Lib.hid k3
  have K4 := Lib.hid k4
  clear hb0 k1 k2 k3 k4 hr hsp ok rok hth hne
  go_enter Tryz.func16, Tryz.ntmps16
  go_wp2_with fail
  generalize (((w.alloc (.cells #[v1, v2, v3, v4] 27)).alloc (.cells #[.int .i64 R.tracks, rv] 36)).alloc (.cells #[.int .i64 rt, .slice at' th.length ct] 31)).alloc (.cells #[.int .i64 least, .int .i64 gap] 43) = W0 at *
  refine (rcheck_roll R HRO.out rv g _ (HR.out.later HB0.out)).mono ?_
  rintro e W1 ⟨rfl, hb1⟩
  by_cases he : rollErr R true = 0
  · have HB1 := Lib.hid (below_step HB0.out hb1)
    have L1 := Lib.hid (K1.out.below hb1)
    have L2 := Lib.hid (K2.out.below hb1)
    have L3 := Lib.hid (K3.out.below hb1)
    have L4 := Lib.hid (K4.out.below hb1)
    have x0 : W1.cell? ⟨w.heap.size, 0, none⟩ = some v1 := L1.out.cell 0
    have x1 : W1.cell? ⟨w.heap.size, 1, none⟩ = some v2 := L1.out.cell 1
    have x2 : W1.cell? ⟨w.heap.size, 2, none⟩ = some v3 := L1.out.cell 2
    have x3 : W1.cell? ⟨w.heap.size, 3, none⟩ = some v4 := L1.out.cell 3
    have y0 : W1.cell? ⟨w.heap.size + 1 + 1, 0, none⟩ = some (.int .i64 rt) := L3.out.cell 0
    have y1 : W1.cell? ⟨w.heap.size + 1 + 1, 1, none⟩ = some (.slice at' th.length ct) := L3.out.cell 1
    have HE := Lib.hid he
    rw [he]
    clear hb1 he
    go_wp2_with fail
    refine (rscale_any v1 v2 v3 v4 S HOK.out f rt th _ _ (HSP.out.later HB1.out) hl (HTH.out.later HB1.out)).mono ?_
    rintro e W2 ⟨rfl, hb2⟩
    have HB2 := Lib.hid (below_step HB1.out hb2)
    have M2 := Lib.hid (L2.out.below hb2)
    have M3 := Lib.hid (L3.out.below hb2)
    have M4 := Lib.hid (L4.out.below hb2)
    clear hb2 x0 x1 x2 x3 y0 y1
    by_cases hsc : scE S rt th = 0
    · rw [hsc]
      have HSC := Lib.hid hsc
      have z0 : W2.cell? ⟨w.heap.size + 1, 0, none⟩ = some (.int .i64 R.tracks) := M2.out.cell 0
      have y1 : W2.cell? ⟨w.heap.size + 1 + 1, 1, none⟩ = some (.slice at' th.length ct) := M3.out.cell 1
      have t0 : W2.cell? ⟨w.heap.size + 1 + 1 + 1, 0, none⟩ = some (.int .i64 least) := M4.out.cell 0
      have t1 : W2.cell? ⟨w.heap.size + 1 + 1 + 1, 1, none⟩ = some (.int .i64 gap) := M4.out.cell 1
      clear hsc
      by_cases htr : R.tracks = th.length + 1
      · have htb : (R.tracks == (th.length : Int) + 1) = true := by rw [beq_iff_eq]; exact htr
        by_cases hq : least < 1 ∨ 100 < least ∨ gap < 0 ∨ 100 < gap
        · have HQ := Lib.hid (rdErr_range (S := S) (rt := rt) (least := least) (gap := gap) HE.out HSC.out htr hq)
          have hqb : (((decide (least < 1) || decide (100 < least)) || decide (gap < 0)) || decide (100 < gap)) = true := by simp; omega
          have hq2 : 1 ≤ least → least ≤ 100 → 0 ≤ gap → ¬ gap ≤ 100 := by omega
          clear htr hq
          go_wp2_with fail
          all_goals first
            | (go_ret2; exact ⟨by rw [HQ.out]; rfl, HB2.out⟩)
            | (exfalso; omega)
        · exact absurd (rdErr_good HE.out HSC.out htr hq) HNE.out
      · have HQ := Lib.hid (rdErr_tracks (S := S) (rt := rt) (least := least) (gap := gap) HE.out HSC.out htr)
        have htb : (R.tracks == (th.length : Int) + 1) = false := by rw [beq_eq_false_iff_ne]; exact htr
        clear htr
        go_wp2
        go_ret2
        exact ⟨by rw [HQ.out]; rfl, HB2.out⟩
    · have HQ := Lib.hid (rdErr_scale (least := least) (gap := gap) HE.out hsc)
      have hs2 : (scE S rt th == 0) = false := by rw [beq_eq_false_iff_ne]; exact hsc
      clear hsc
      go_wp2
      go_ret2
      exact ⟨by rw [HQ.out]; rfl, HB2.out⟩
  · have HE := Lib.hid (rdErr_roll (S := S) (rt := rt) (th := th) (least := least) (gap := gap) he)
    have HB1 := Lib.hid (below_step HB0.out hb1)
    have he2 : (rollErr R true == 0) = false := by rw [beq_eq_false_iff_ne]; exact he
    clear he hb1
    go_wp2
    go_ret2
    exact ⟨by rw [HE.out]; rfl, HB1.out⟩
end Go.Proofs.YtppccacfdpkkgaaGreatDoor
