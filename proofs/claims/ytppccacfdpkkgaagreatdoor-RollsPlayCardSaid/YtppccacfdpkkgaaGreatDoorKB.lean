/-
  BRIDGE: what stays while the slots of a track are bridged.
-/
import Derived.Test.YtppccacfdpkkgaaGreatDoorKE
import Derived.Test.YtppccacfdpkkgaaGreatDoorK5
import Derived.Test.YtppccacfdpkkgaaGreatDoorK19
import Derived.Test.YtppccacfdpkkgaaGreatDoorH
namespace Go.Proofs.YtppccacfdpkkgaaGreatDoor
open Go.RowKit Go.Shelf
/-- While Bridge writes: the paper at PO is qs without the holes of G; T: the track. -/
structure BgI (qs : List Rw) (tr : Int) (W2 : World) (OB PO T : Nat) (k : Int) (Ds : List Nat) (G : Nat → Nat → Bool) (wr : World) : Prop where
  ob : Boxed wr OB 83 (.pointer (some ⟨PO, 0, none⟩))
  pap : ∃ v qs', Pap wr W2.heap.size PO tr v qs' ∧ BrH qs G qs'
  tk : Boxed wr T 3 (.int .i64 k)
  tb : W2.heap.size ≤ T
  marks : MarksOk W2.heap.size Ds wr
  b : Below W2.heap.size W2 wr
theorem BgI.below {qs : List Rw} {tr : Int} {W2 : World} {OB PO T : Nat} {k : Int} {Ds : List Nat} {G : Nat → Nat → Bool} {wr w' : World} (h : BgI qs tr W2 OB PO T k Ds G wr) (hb : Below wr.heap.size wr w') : BgI qs tr W2 OB PO T k Ds G w' := by
  obtain ⟨v, qs', hp, hq⟩ := h.pap
  exact ⟨(hb.block OB h.ob.lt).trans h.ob, ⟨v, qs', hp.below hb, hq⟩, (hb.block T h.tk.lt).trans h.tk, h.tb, h.marks.below hb, below_step h.b hb⟩
theorem BgI.to {qs : List Rw} {tr : Int} {W2 : World} {OB PO T : Nat} {k : Int} {Ds : List Nat} {G G' : Nat → Nat → Bool} {wr : World} (h : BgI qs tr W2 OB PO T k Ds G wr) (hg : ∀ qs', BrH qs G qs' → BrH qs G' qs') : BgI qs tr W2 OB PO T k Ds G' wr := by
  obtain ⟨v, qs', hp, hq⟩ := h.pap
  exact ⟨h.ob, ⟨v, qs', hp, hg _ hq⟩, h.tk, h.tb, h.marks, h.b⟩
theorem Pap.kept {W W' : World} {base P : Nat} {tr : Int} {v : Value} {qs : List Rw} (h : Pap W base P tr v qs) {row : Option Nat} (hg : W.grownBy W' row) (hr : ∀ r, row = some r → ∃ o : Obj, W.heap[r]? = some o ∧ o.isCells = false) : Pap W' base P tr v qs := by
  refine ⟨(hg.block P (Array.getElem?_eq_some_iff.1 h.p).1 (noncells_ne h.p hr)).trans h.p, ?_, h.pb, h.ok⟩
  refine h.r.kept hg ?_
  rcases h.r.2 with ⟨rfl, _⟩ | ⟨g, cap, cur, rfl, _, hgb, _⟩
  · exact .inl rfl
  · refine .inr fun e => ?_
    have := noncells_ne hgb hr
    exact this e

/-- In a round: the boxes that the iterator reads, too. -/
structure BxI (qs : List Rw) (tr : Int) (W2 : World) (OB PO T : Nat) (k : Int) (Ds : List Nat) (P Bp Bt Bg : Nat) (G : Nat → Nat → Bool) (W : World) : Prop where
  i : BgI qs tr W2 OB PO T k Ds G W
  bp : Boxed W Bp 83 (.pointer (some ⟨P, 0, none⟩))
  bt : Boxed W Bt 3 (.int .i64 k)
  bg : Boxed W Bg 3 (.int .i64 0)
section
variable {qs : List Rw} {tr : Int} {W2 : World} {OB PO T : Nat} {k : Int} {Ds : List Nat} {P Bp Bt Bg : Nat} {G G' : Nat → Nat → Bool} {W W' : World}
theorem BxI.slIn {base : Nat} {pv : Value} (h : BxI qs tr W2 OB PO T k Ds P Bp Bt Bg G W) (hp : Pap W2 base P tr pv qs) : SlIn W base Bp Bt Bg P tr pv qs k 0 := ⟨h.bp, h.bt, h.bg, hp.below h.i.b⟩
theorem BxI.below (h : BxI qs tr W2 OB PO T k Ds P Bp Bt Bg G W) (hb : Below W.heap.size W W') : BxI qs tr W2 OB PO T k Ds P Bp Bt Bg G W' :=
  ⟨h.i.below hb, (hb.block Bp h.bp.lt).trans h.bp, (hb.block Bt h.bt.lt).trans h.bt, (hb.block Bg h.bg.lt).trans h.bg⟩
theorem BxI.to (h : BxI qs tr W2 OB PO T k Ds P Bp Bt Bg G W) (hg : ∀ qs', BrH qs G qs' → BrH qs G' qs') : BxI qs tr W2 OB PO T k Ds P Bp Bt Bg G' W := ⟨h.i.to hg, h.bp, h.bt, h.bg⟩
theorem BgI.kept (h : BgI qs tr W2 OB PO T k Ds G W) {row : Option Nat} (hg : W.grownBy W' row) (hD : ∀ r, row = some r → r ∉ Ds) (hB : ∀ r, row = some r → W2.heap.size ≤ r) (hr : ∀ r, row = some r → ∃ o : Obj, W.heap[r]? = some o ∧ o.isCells = false) : BgI qs tr W2 OB PO T k Ds G W' := by
  obtain ⟨v, qs', hp, hq⟩ := h.pap
  refine ⟨h.ob.kept hg (noncells_ne h.ob hr), ⟨v, qs', hp.kept hg hr, hq⟩, h.tk.kept hg (noncells_ne h.tk hr), h.tb, h.marks.keeps fun D hDm => ?_, h.b.grown hg h.b.size hB⟩
  exact hg.block D (h.marks.lt hDm) (fun e => hD D e.symm hDm)
theorem BxI.ownFrom {β : Type} {B : Nat} {GG : List β → Nat → Nat → Bool} (hD : ∀ D ∈ Ds, D < B) (hB : W2.heap.size ≤ B) : OwnFrom B (fun pre W => BxI qs tr W2 OB PO T k Ds P Bp Bt Bg (GG pre) W) := by
  intro pre W W' row h hg hr
  have hr2 : ∀ r, row = some r → ∃ o : Obj, W.heap[r]? = some o ∧ o.isCells = false := fun r e => (hr r e).2
  exact ⟨h.i.kept hg (fun r e hm => by have := (hr r e).1; have := hD r hm; omega) (fun r e => Nat.le_trans hB (hr r e).1) hr2, h.bp.kept hg (noncells_ne h.bp hr2), h.bt.kept hg (noncells_ne h.bt hr2), h.bg.kept hg (noncells_ne h.bg hr2)⟩
/-- A hole is taken. -/
theorem BxI.put (h : BxI qs tr W2 OB PO T k Ds P Bp Bt Bg G W) {Gb cap : Nat} {qs' qs2 : List Rw} (hp : PapB W W2.heap.size PO tr Gb cap qs') (hl : qs2.length = qs'.length) (hr : RwB W' Gb cap qs2) (hg : W.grownBy W' (some Gb)) (hq : BrH qs G' qs2) : BxI qs tr W2 OB PO T k Ds P Bp Bt Bg G' W' ∧ KeepsOthers W W' := by
  have hcells : ∃ cs, W.heap[Gb]? = some (.cells cs 89 (0, 0)) := by obtain ⟨cur, hc⟩ := hp.r.blk; exact ⟨cur, hc⟩
  have ne : ∀ {B : Nat} {t : TypeId} {v : Value}, Boxed W B t v → t ≠ 89 → some B ≠ some Gb := fun {B t v} hb ht e => by
    obtain ⟨cs, hc⟩ := hcells
    cases e
    rw [show W.heap[Gb]? = _ from hb] at hc
    injection hc with hc
    injection hc with _ h2
    exact ht h2
  have neD : ∀ D, D ∈ Ds → some D ≠ some Gb := fun D hD e => by
    obtain ⟨cs, hc⟩ := hcells
    cases e
    rw [(h.i.marks.at' Gb hD).2] at hc
    cases hc
  refine ⟨⟨⟨h.i.ob.kept hg (ne h.i.ob (by decide)), ⟨_, qs2, PapB.pap ⟨?_, hr, hp.pb, hp.gb, hp.c, hq.ok⟩, hq⟩, h.i.tk.kept hg (ne h.i.tk (by decide)), h.i.tb, h.i.marks.keeps fun D hD => hg.block D (h.i.marks.lt hD) (neD D hD), ?_⟩, h.bp.kept hg (ne h.bp (by decide)), h.bt.kept hg (ne h.bt (by decide)), h.bg.kept hg (ne h.bg (by decide))⟩, ?_⟩
  · rw [hl]
    exact hp.p.kept' hg (rwB_ne hp.r hp.p (by decide))
  · exact h.i.b.grown hg h.i.b.size (fun r e => by cases e; exact hp.gb)
  · refine KeepsOthers.of_grownBy hg fun j o e hj => ?_
    obtain ⟨cs, hc⟩ := hcells
    cases e
    rw [hc] at hj
    cases hj
    rfl
/-- The track's box is laid anew. -/
theorem BgI.track (h : BgI qs tr W2 OB PO T k Ds G W) (k' : Int) : BgI qs tr W2 OB PO W.heap.size k' Ds G ((W.alloc (.cells #[.int .i64 k] 3)).setCell ⟨W.heap.size, 0, none⟩ (.int .i64 k')) := by
  have h1 := h.below ((Below.refl _ W).alloc (Nat.le_refl _) (.cells #[.int .i64 k] 3))
  have hsz := h.b.size
  have hg := grownBy_setCell' (W.alloc (.cells #[.int .i64 k] 3)) W.heap.size (.int .i64 k')
  have hlt : ∀ {B : Nat}, B < W.heap.size → some B ≠ some W.heap.size := fun {B} hb e => by cases e; omega
  obtain ⟨v, qs', hp, hq⟩ := h.pap
  have hp1 := hp.below ((Below.refl _ W).alloc (Nat.le_refl _) (.cells #[.int .i64 k] 3))
  refine ⟨h1.ob.kept hg (hlt h.ob.lt), ⟨v, qs', ⟨(hg.block PO (Array.getElem?_eq_some_iff.1 hp1.p).1 (hlt (Array.getElem?_eq_some_iff.1 hp.p).1)).trans hp1.p, hp1.r.kept hg ?_, hp1.pb, hp1.ok⟩, hq⟩, (Boxed.new W 3 (.int .i64 k)).set _, hsz, h1.marks.keeps fun D hD => hg.block D (h1.marks.lt hD) (hlt (h.marks.lt hD)), ?_⟩
  · rcases hp.r.2 with ⟨rfl, _⟩ | ⟨g, cap, cur, rfl, _, hgb, _⟩
    · exact .inl rfl
    · exact .inr (hlt (Array.getElem?_eq_some_iff.1 hgb).1)
  · exact h1.b.grown hg h1.b.size (fun r e => by cases e; exact hsz)
end
theorem own_form {W : World} {base : Nat} {t : TypeId} {k n : Nat} {v : Value} {xs : List Value} (h : W.ownsRow base t k v n xs) : ∃ a c, v = .slice a n c := by
  rcases h.2 with ⟨e, e0⟩ | ⟨g, cap, cur, e, _⟩
  · exact ⟨none, 0, by rw [e, e0]⟩
  · exact ⟨_, _, e⟩
/-- The marks are taken: what is cells stays. -/
theorem cleared_cell {B : Nat} : ∀ {Ds : List Nat} {W : World}, MarksOk B Ds W → ∀ {p : Addr} {u : Value}, W.cell? p = some u → (cleared W Ds).cell? p = some u := by
  intro Ds W h p u hu
  have hn : p.block ∉ Ds := fun hm => by
    have h1 := (h.at' p.block hm).2
    unfold World.cell? at hu
    rw [h1] at hu
    simp at hu
  have := cleared_block Ds W p.block hn
  unfold World.cell? at hu ⊢
  rw [this]
  exact hu
theorem ARd.cells {w w' : World} {v : Value} {k : Nat} {rows : List (List Value)} (h : ARd w v k rows) (hs : w.heap.size ≤ w'.heap.size) (hc : ∀ {p : Addr} {u : Value}, w.cell? p = some u → w'.cell? p = some u) : ARd w' v k rows := by
  obtain ⟨a, c, rfl, hr⟩ := h
  refine ⟨a, c, rfl, fun i hi => ?_⟩
  obtain ⟨b, o, e, hb, hj⟩ := hr i hi
  exact ⟨b, o, e, by omega, fun j u hu => hc (hj j u hu)⟩
theorem ARd.cleared {B : Nat} {Ds : List Nat} {W : World} (hm : MarksOk B Ds W) {v : Value} {k : Nat} {rows : List (List Value)} (h : ARd W v k rows) : ARd (cleared W Ds) v k rows :=
  h.cells (by rw [cleared_size]; exact Nat.le_refl _) (fun hu => cleared_cell hm hu)
theorem RoRd.cleared {B : Nat} {Ds : List Nat} {W : World} (hm : MarksOk B Ds W) {v : Value} {f : Nat → Value} {R : Ro} (h : RoRd W v f R) : RoRd (cleared W Ds) v f R :=
  ⟨h.r.cleared hm, fun i hi => (h.l i hi).cleared hm⟩
theorem below_cleared {B : Nat} : ∀ {Ds : List Nat} {W : World}, (∀ D ∈ Ds, B ≤ D) → Below B W (cleared W Ds)
  | [], W, _ => Below.refl _ _
  | D :: Ds, W, h => by
    have hg := grownBy_putObj' W D (.deferred none)
    refine Below.trans ⟨hg.os, hg.tape, hg.output, hg.size, fun k hk => World.putObj_heap_other ?_⟩ (below_cleared fun E hE => h E (by simp [hE]))
    intro e
    have := h D (by simp)
    omega

/-- A paper is laid whose rows are a copy: the pointer's box OB, the paper PO. -/
def ClP (W1 : World) (tr : Int) (qs : List Rw) (OB PO : Nat) (wx : World) : Prop := ∃ v, Boxed wx OB 83 (.pointer (some ⟨PO, 0, none⟩)) ∧ Pap wx W1.heap.size PO tr v qs ∧ Below W1.heap.size W1 wx
section
variable {W1 w' : World} {tr : Int} {qs : List Rw} {a : Option Addr} {c n b : Nat}
theorem cl_a (hok : ∀ q ∈ qs, RwOk q) (hb : Below W1.heap.size W1 w') (hu : w'.ownsRow b 89 2 (.slice a qs.length c) qs.length (qs.map rwC).flatten) (hbb : W1.heap.size ≤ b) {v : Value} (hk : Boxed w' W1.heap.size 83 v) :
    ClP W1 tr qs W1.heap.size w'.heap.size ((w'.alloc (.cells #[.int .i64 tr, .slice a qs.length c] 86)).setCell ⟨W1.heap.size, 0, none⟩ (.pointer (some ⟨w'.heap.size, 0, none⟩))) := by
  have h1 := (hk.alloc (.cells #[.int .i64 tr, .slice a qs.length c] 86))
  have hg := grownBy_setCell' (w'.alloc (.cells #[.int .i64 tr, .slice a qs.length c] 86)) W1.heap.size (.pointer (some ⟨w'.heap.size, 0, none⟩))
  have hb1 := hb.alloc hb.size (.cells #[.int .i64 tr, .slice a qs.length c] 86)
  have hp := Blk.new w' 86 #[.int .i64 tr, .slice a qs.length c]
  have hu1 := row_later hu ((Below.refl _ w').alloc (Nat.le_refl _) (.cells #[.int .i64 tr, .slice a qs.length c] 86))
  have hlt := hk.lt
  refine ⟨_, h1.set _, ⟨hp.kept' hg (by omega), (row_base hu1 hbb).kept hg (.inr ?_), hb.size, hok⟩, hb1.grown hg hb1.size (fun r e => by cases e; exact Nat.le_refl _)⟩
  exact fun e => h1.not_row (by decide) hu1 e.symm
theorem cl_b (hok : ∀ q ∈ qs, RwOk q) (hb : Below W1.heap.size W1 w') (hu : w'.ownsRow b 89 2 (.slice a qs.length c) qs.length (qs.map rwC).flatten) (hbb : W1.heap.size ≤ b) :
    ClP W1 tr qs w'.heap.size (w'.heap.size + 1) ((w'.alloc (.cells #[.pointer (some ⟨w'.heap.size + 1, 0, none⟩)] 83)).alloc (.cells #[.int .i64 tr, .slice a qs.length c] 86)) := by
  have hp := Blk.new (w'.alloc (.cells #[.pointer (some ⟨w'.heap.size + 1, 0, none⟩)] 83)) 86 #[.int .i64 tr, .slice a qs.length c]
  rw [World.size_alloc] at hp
  have hs := hb.size
  have h1 := ((Below.refl w'.heap.size w').alloc (Nat.le_refl _) (.cells #[.pointer (some ⟨w'.heap.size + 1, 0, none⟩)] 83)).alloc (by simp) (.cells #[.int .i64 tr, .slice a qs.length c] 86)
  exact ⟨_, (Boxed.new w' _ _).alloc _, ⟨hp, row_base (row_later hu h1) hbb, by omega, hok⟩, below_step hb h1⟩
theorem cl_c (hok : ∀ q ∈ qs, RwOk q) (hb : Below W1.heap.size W1 w') (hu : w'.ownsRow b 89 2 (.slice a qs.length c) qs.length (qs.map rwC).flatten) (hbb : W1.heap.size ≤ b) :
    ClP W1 tr qs (w'.heap.size + 1) w'.heap.size ((w'.alloc (.cells #[.int .i64 tr, .slice a qs.length c] 86)).alloc (.cells #[.pointer (some ⟨w'.heap.size, 0, none⟩)] 83)) := by
  have hp := Boxed.new (w'.alloc (.cells #[.int .i64 tr, .slice a qs.length c] 86)) 83 (.pointer (some ⟨w'.heap.size, 0, none⟩))
  rw [World.size_alloc] at hp
  have hs := hb.size
  have h1 := ((Below.refl w'.heap.size w').alloc (Nat.le_refl _) (.cells #[.int .i64 tr, .slice a qs.length c] 86)).alloc (by simp) (.cells #[.pointer (some ⟨w'.heap.size, 0, none⟩)] 83)
  exact ⟨_, hp, ⟨(Blk.new w' _ _).alloc _, row_base (row_later hu h1) hbb, by omega, hok⟩, below_step hb h1⟩
end
theorem bg_start {W1 wc : World} {tr : Int} {qs : List Rw} {OB PO : Nat} {sl : Nat → List (Nat × Nat)} {m w : Nat} (h : ClP W1 tr qs OB PO wc) : BgI qs tr W1 OB PO wc.heap.size 1 [] (gK sl m w 1) (wc.alloc (.cells #[.int .i64 1] 3)) := by
  obtain ⟨v, hb, hp, hw⟩ := h
  have h1 := (Below.refl wc.heap.size wc).alloc (Nat.le_refl _) (.cells #[.int .i64 1] 3)
  exact ⟨hb.alloc _, ⟨v, qs, hp.below h1, (BrH.start hp.ok).k1⟩, Boxed.new wc _ _, hw.size, MarksOk.nil _ _, below_step hw h1⟩
/-- The slots of the rows. -/
def slQ (qs : List Rw) (t : Nat) : List (Nat × Nat) := slotsP (holeF qs t) 0 qs.length
theorem BxI.next {qs : List Rw} {tr : Int} {W2 : World} {OB PO T : Nat} {k : Int} {Ds : List Nat} {P Bp Bt Bg : Nat} {W : World} {m w k' D : Nat} {pre : List (Nat × Nat)} (hk : 1 ≤ k') (h : BxI qs tr W2 OB PO T k Ds P Bp Bt Bg (gP (slQ qs) m w k' pre) W) (hp : pre = slQ qs k') (hD : D ∉ Ds) (hB : W2.heap.size ≤ D) (hK : W.heap[D]? = some (.deferred (some []))) : BgI qs tr W2 OB PO T k (D :: Ds) (gK (slQ qs) m w (k' + 1)) W := by
  subst hp
  obtain ⟨v, qs', hq, hh⟩ := h.i.pap
  exact ⟨h.i.ob, ⟨v, qs', hq, hh.kn hk⟩, h.i.tk, h.i.tb, h.i.marks.cons hD hB hK, h.i.b⟩
/-- The track's box is laid anew. -/
theorem BgI.track' {qs : List Rw} {tr : Int} {W2 : World} {OB PO T : Nat} {k : Int} {Ds : List Nat} {G : Nat → Nat → Bool} {W : World} (h : BgI qs tr W2 OB PO T k Ds G W) (k' : Int) : BgI qs tr W2 OB PO W.heap.size k' Ds G (W.alloc (.cells #[.int .i64 k'] 3)) := by
  have h1 := h.below ((Below.refl _ W).alloc (Nat.le_refl _) (.cells #[.int .i64 k'] 3))
  exact ⟨h1.ob, h1.pap, Boxed.new W _ _, h.b.size, h1.marks, h1.b⟩
/-- What Bridge's rows are. -/
theorem bridge_rows {R : Ro} {qs qs' : List Rw} {m w K : Nat} (h : QsOf qs R) (hb : BrH qs (gK (slQ qs) m w K) qs') (hK : R.tracks = K) (h128 : K ≤ 128) : (⟨(K : Int), qs'.map fun q => told (hole q) K⟩ : Ro) = brRo R m w K := by
  unfold brRo
  rw [hK]
  congr 1
  apply List.ext_getElem
  · rw [List.length_map, brRows_len, hb.len, h.len]
  · intro i h1 h2
    have hi' : i < qs'.length := by simpa using h1
    have hi : i < qs.length := by rw [← hb.len]; exact hi'
    have hr : i < R.rows.length := by rw [← h.len]; exact hi
    rw [List.getElem_map, brRows_at, brRow, hK, Int.toNat_natCast]
    refine told_same fun t ht => ?_
    have e1 : hole qs[i] t = trk R t i := by
      unfold trk
      rw [getD_at hr]
      exact (h.at' i hi hr).2 t (by omega)
    have e2 : slQ qs t = slR R t := by
      unfold slQ slR slotsR
      rw [h.len]
      refine slotsP_congr fun j hj => ?_
      have hq : j < qs.length := by rw [h.len]; exact hj
      unfold holeF trk
      rw [getD_at hq, getD_at hj, hasB_at (show t < 128 by omega)]
      exact (h.at' j hq hj).2 t (by omega)
    rw [hb.at' i hi hi' t (by omega), e1, brF, gK, gK, e2]
/-- How Bridge ends on its road. -/
def BgR (R : Ro) (w : World) (e : Ending) (w' : World) : Prop := ∃ v g, e = .returned (.tuple #[.agg #[.int .i64 R.tracks, v], .int .i64 0]) ∧ RoRd w' v g R ∧ Below w.heap.size w w'
theorem bgR_of {R R' : Ro} (h : R' = R) {w : World} {e : Ending} {w' : World} (hr : BgR R' w e w') : BgR R w e w' := by rw [← h]; exact hr
/-- A function is left with its marks; its results lie in memory. -/
theorem marks_ret' {F : Fence} {n : Nat} {P : Program} {fn : Func} {R : Ending → World → Prop} {a : Act} {B : Nat} {Ds : List Nat} {W : World} {v : Value} (hm : MarksOk B Ds W) (hd : a.defers = marks Ds) (hr : (results fn a.tmps).run P (cleared W Ds) = .ok v (cleared W Ds)) (hR : R (.returned v) (cleared W Ds)) : bodyPostM F n P fn R .ret a W := by
  show LeavesInM F n P fn a.tmps R a.defers .returning W
  rw [hd]
  exact leaves_marks Ds W hm ⟨v, hr, hR⟩
end Go.Proofs.YtppccacfdpkkgaaGreatDoor
