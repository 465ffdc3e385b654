/-
  READ: what stays while the slots of a thing are read.
-/
import Derived.Test.YtppccacfdpkkgaaGreatDoorK18
import Derived.Test.YtppccacfdpkkgaaGreatDoorKD
import Derived.Test.YtppccacfdpkkgaaGreatDoorH
import Derived.Test.YtppccacfdpkkgaaGreatDoorK10
namespace Go.Proofs.YtppccacfdpkkgaaGreatDoor
open Go.RowKit Go.Shelf
/-- The box at n holds a slice of its own of the events E. -/
def RdOut (n : Nat) (E : List Ev) (W : World) : Prop := ∃ v, Boxed W n 28 v ∧ W.ownsRow (n + 1) 68 5 v E.length (E.map evC5).flatten
theorem RdOut.kept {n : Nat} {E : List Ev} {X Y : World} {row : Option Nat} (h : RdOut n E X) (hg : X.grownBy Y row) (hr : ∀ r, row = some r → ∃ o : Obj, X.heap[r]? = some o ∧ o.isCells = false) : RdOut n E Y := by
  obtain ⟨v, hv, hw⟩ := h
  obtain ⟨v', h1, h2, _⟩ := holdsRow_own (β := List Ev) (n + 1) n 28 68 5 (fun E => E.length) (fun E => (E.map evC5).flatten) (fun _ _ => True) E X Y row ⟨v, hv, hw, trivial⟩ hg hr
  exact ⟨v', h1, h2⟩
theorem RdOut.below {n : Nat} {E : List Ev} {X Y : World} (h : RdOut n E X) (hb : Below X.heap.size X Y) : RdOut n E Y := by
  obtain ⟨v, hv, hw⟩ := h
  exact ⟨v, (hb.block n hv.lt).trans hv, row_later hw hb⟩
/-- The events of the things ahead. -/
def rdE (qs : List Rw) (rt least gap : Int) (l : List Th) : List Ev := evsT rt least (fun t => slotsP (holeF qs t) gap qs.length) 1 l
/-- While Read collects: the things below k are read; Ds: the marks. -/
structure RdInv (qs : List Rw) (th : List Th) (rt least gap : Int) (W2 wr : World) (k : Nat) (Ds : List Nat) : Prop where
  out : RdOut W2.heap.size (rdE qs rt least gap (th.take k)) wr
  marks : MarksOk W2.heap.size Ds wr
  b : Below W2.heap.size W2 wr
theorem slotsP_len {f : Nat → Bool} {gap : Int} : ∀ n : Nat, (slotsP f gap n).length ≤ n
  | 0 => Nat.le_refl _
  | m + 1 => by
    have ih := slotsP_len (f := f) (gap := gap) m
    cases hf : f m with
    | false => rw [slotsP_skip hf]; omega
    | true =>
      rcases List.eq_nil_or_concat (slotsP f gap m) with e | ⟨l, x, e⟩
      · rw [slotsP_first hf e]; simp
      · rw [List.concat_eq_append] at e
        rw [e] at ih
        simp only [List.length_append, List.length_cons, List.length_nil] at ih
        by_cases hg : (m : Int) - x.2 - 1 ≤ gap
        · rw [slotsP_join hf e hg]; simp only [List.length_append, List.length_cons, List.length_nil]; omega
        · rw [slotsP_new hf e hg]; simp only [List.length_append, List.length_cons, List.length_nil]; omega
theorem evsT_len (qs : List Rw) (rt least gap : Int) : ∀ (k : Nat) (l : List Th), (evsT rt least (fun t => slotsP (holeF qs t) gap qs.length) k l).length ≤ 2 * qs.length * l.length
  | _, [] => Nat.zero_le _
  | k, x :: l => by
    have h1 := evsL_len rt least x (slotsP (holeF qs (k : Int)) gap qs.length)
    have h2 := slotsP_len (f := holeF qs (k : Int)) (gap := gap) qs.length
    have h3 := evsT_len qs rt least gap (k + 1) l
    rw [evsT, List.length_append, List.length_cons, Nat.mul_add, Nat.mul_one]
    omega
theorem rdE_len (qs : List Rw) (rt least gap : Int) (l : List Th) (hq : qs.length ≤ 20000) (hl : l.length ≤ 127) : (rdE qs rt least gap l).length ≤ 5080000 := by
  have h := evsT_len qs rt least gap 1 l
  have h2 : 2 * qs.length * l.length ≤ 2 * 20000 * 127 := Nat.mul_le_mul (by omega) hl
  unfold rdE
  omega
theorem rd_start (qs : List Rw) (th : List Th) (rt least gap : Int) (W2 : World) : RdInv qs th rt least gap W2 (W2.alloc (.cells #[.slice none 0 0] 28)) 0 [] where
  out := ⟨_, Boxed.new W2 _ _, World.ownsRow_nil _ _ _ _⟩
  marks := MarksOk.nil _ _
  b := (Below.refl _ _).alloc (Nat.le_refl _) _
/-- While the slots of a thing are read: pre have come. -/
structure RsInv (E : List Ev) (rt least : Int) (W2 : World) (P Bp Bt Bg X : Nat) (track gap : Int) (x : Th) {N : Nat} (Ds : List Nat) (pre : List (SlP N)) (W : World) : Prop where
  out : RdOut W2.heap.size (E ++ evsL rt least x (pre.map (·.1))) W
  marks : MarksOk W2.heap.size Ds W
  bp : Boxed W Bp 83 (.pointer (some ⟨P, 0, none⟩))
  bt : Boxed W Bt 3 (.int .i64 track)
  bg : Boxed W Bg 3 (.int .i64 gap)
  kx : Blk W X 82 #[.int .i64 x.1, .int .i64 x.2.1, .int .i64 x.2.2]
  b : Below W2.heap.size W2 W
theorem RsInv.slIn {E : List Ev} {rt least : Int} {W2 : World} {P Bp Bt Bg X : Nat} {track gap : Int} {x : Th} {Ds : List Nat} {N : Nat} {pre : List (SlP N)} {W : World} (h : RsInv E rt least W2 P Bp Bt Bg X track gap x Ds pre W) {base : Nat} {tr : Int} {pv : Value} {qs : List Rw} (hp : Pap W2 base P tr pv qs) : SlIn W base Bp Bt Bg P tr pv qs track gap :=
  ⟨h.bp, h.bt, h.bg, hp.below h.b⟩
theorem RsInv.below {E : List Ev} {rt least : Int} {W2 : World} {P Bp Bt Bg X : Nat} {track gap : Int} {x : Th} {Ds : List Nat} {N : Nat} {pre : List (SlP N)} {W W' : World} (h : RsInv E rt least W2 P Bp Bt Bg X track gap x Ds pre W) (hb : Below W.heap.size W W') : RsInv E rt least W2 P Bp Bt Bg X track gap x Ds pre W' :=
  ⟨h.out.below hb, h.marks.below hb, (hb.block Bp h.bp.lt).trans h.bp, (hb.block Bt h.bt.lt).trans h.bt, (hb.block Bg h.bg.lt).trans h.bg, h.kx.below hb, below_step h.b hb⟩
theorem noncells_ne {W : World} {B : Nat} {cs : Array Value} {t : TypeId} {fr : Nat × Nat} (h : W.heap[B]? = some (.cells cs t fr)) {row : Option Nat} (hr : ∀ r, row = some r → ∃ o : Obj, W.heap[r]? = some o ∧ o.isCells = false) : some B ≠ row := fun e => by
  obtain ⟨o, ho, hc⟩ := hr B e.symm
  rw [h] at ho
  cases ho
  cases hc
theorem RsInv.ownFrom {E : List Ev} {rt least : Int} {W2 : World} {P Bp Bt Bg X : Nat} {track gap : Int} {x : Th} {Ds : List Nat} {N B : Nat} (hD : ∀ D ∈ Ds, D < B) (hB : W2.heap.size ≤ B) : OwnFrom B (RsInv (N := N) E rt least W2 P Bp Bt Bg X track gap x Ds) := by
  intro pre W W' row h hg hr
  have hr2 : ∀ r, row = some r → ∃ o : Obj, W.heap[r]? = some o ∧ o.isCells = false := fun r e => (hr r e).2
  refine ⟨h.out.kept hg hr2, h.marks.keeps fun D hDm => ?_, h.bp.kept hg (noncells_ne h.bp hr2), h.bt.kept hg (noncells_ne h.bt hr2), h.bg.kept hg (noncells_ne h.bg hr2), ?_, ?_⟩
  · exact hg.block D (h.marks.lt hDm) (fun e => by have := (hr D e.symm).1; have := hD D hDm; omega)
  · exact (hg.block X (Array.getElem?_eq_some_iff.1 h.kx).1 (noncells_ne h.kx hr2)).trans h.kx
  · exact h.b.grown hg h.b.size (fun r e => Nat.le_trans hB (hr r e).1)
theorem SlIn.putObj {W : World} {base Bp Bt Bg P : Nat} {tr : Int} {pv : Value} {qs : List Rw} {track gap : Int} (h : SlIn W base Bp Bt Bg P tr pv qs track gap) {l : Nat} {o : Obj} (o' : Obj) (hl : W.heap[l]? = some o) (ho : o.isCells = false) : SlIn (W.putObj l o') base Bp Bt Bg P tr pv qs track gap := by
  have hr2 : ∀ r, some l = some r → ∃ o : Obj, W.heap[r]? = some o ∧ o.isCells = false := fun r e => by cases e; exact ⟨o, hl, ho⟩
  have hg := grownBy_putObj' W l o'
  exact ⟨h.bp.kept hg (noncells_ne h.bp hr2), h.bt.kept hg (noncells_ne h.bt hr2), h.bg.kept hg (noncells_ne h.bg hr2),
    ⟨(hg.block P (Array.getElem?_eq_some_iff.1 h.pap.p).1 (noncells_ne h.pap.p hr2)).trans h.pap.p, ownsRow_putObj h.pap.r o' hl ho, h.pap.pb, h.pap.ok⟩⟩
theorem Blk.not_row {W : World} {B : Nat} {t e : TypeId} {cs : Array Value} (h : Blk W B t cs) (hte : t ≠ e) {base size k : Nat} {v : Value} {xs : List Value} (hr : W.ownsRow base e size v k xs) : some B ≠ v.ownBlock := by
  rcases hr.2 with ⟨rfl, _⟩ | ⟨g, cap, cur, rfl, _, hgb, _⟩
  · simp [Value.ownBlock]
  · intro e'
    obtain rfl : B = g := by simpa [Value.ownBlock] using e'
    have := (show W.heap[B]? = _ from h).symm.trans hgb
    simp at this
    exact hte this.2
/-- A block aside of an append to a boxed slice. -/
theorem Blk.aside {W w1 : World} {n₀ B B' : Nat} {t' e : TypeId} {size : Nat} {v v' : Value} {k : Nat} {xs : List Value} {cs : Array Value} {tmp : Obj} (h : Blk W B' t' cs) (hte : t' ≠ e) (hne : B' ≠ B) (hrow : W.ownsRow n₀ e size v k xs) (hgrow : (W.alloc tmp).grownBy w1 v.ownBlock) : Blk (w1.setCell ⟨B, 0, none⟩ v') B' t' cs := by
  have h0 : Blk (W.alloc tmp) B' t' cs := h.alloc tmp
  have h1 : Blk w1 B' t' cs := (hgrow.block B' (Array.getElem?_eq_some_iff.1 h0).1 (h.not_row hte hrow)).trans h0
  exact ((grownBy_setCell' w1 B v').block B' (Array.getElem?_eq_some_iff.1 h1).1 (by simp [hne])).trans h1
/-- Two events are appended. -/
theorem RsInv.appended {E : List Ev} {rt least : Int} {W2 : World} {P Bp Bt Bg X : Nat} {track gap : Int} {x : Th} {Ds : List Nat} {N : Nat} {pre : List (SlP N)} {W w1 : World} (h : RsInv E rt least W2 P Bp Bt Bg X track gap x Ds pre W) (n1 : Bp ≠ W2.heap.size) (n2 : Bt ≠ W2.heap.size) (n3 : Bg ≠ W2.heap.size) (n4 : X ≠ W2.heap.size) {v v' : Value} {tmp : Obj} {s : SlP N} {m : Nat} {ys : List Value} (hlong : ¬ ((s.1.2 : Int) - s.1.1 + 1 < least))
    (hv : Boxed W W2.heap.size 28 v) (hrow : W.ownsRow (W2.heap.size + 1) 68 5 v (E ++ evsL rt least x (pre.map (·.1))).length ((E ++ evsL rt least x (pre.map (·.1))).map evC5).flatten)
    (hown' : w1.ownsRow (W2.heap.size + 1) 68 5 v' m ys) (hm : m = (E ++ evsL rt least x (pre.map (·.1))).length + 2) (hys : ys = ((E ++ evsL rt least x (pre.map (·.1))).map evC5).flatten ++ ((evsOf rt x s.1).map evC5).flatten) (hgrow : (W.alloc tmp).grownBy w1 v.ownBlock) :
    Boxed w1 W2.heap.size 28 v ∧ RsInv E rt least W2 P Bp Bt Bg X track gap x Ds (pre ++ [s]) (w1.setCell ⟨W2.heap.size, 0, none⟩ v') ∧ KeepsOthers W (w1.setCell ⟨W2.heap.size, 0, none⟩ v') := by
  have hsz : W2.heap.size + 1 ≤ W.heap.size := by have := hv.lt; omega
  have e : E ++ evsL rt least x ((pre ++ [s]).map (·.1)) = (E ++ evsL rt least x (pre.map (·.1))) ++ evsOf rt x s.1 := by
    rw [List.map_append, List.map_cons, List.map_nil, evsL_snoc, if_neg hlong, List.append_assoc]
  have hte : (28 : TypeId) ≠ 68 := by decide
  have hv1 : Boxed w1 W2.heap.size 28 v := (hv.alloc tmp).kept hgrow (hv.not_row hte hrow)
  have ko : KeepsOthers W (w1.setCell ⟨W2.heap.size, 0, none⟩ v') := by
    refine ((KeepsOthers.alloc W tmp).trans (KeepsOthers.of_grownBy hgrow fun j o ej hj => ?_)).trans (KeepsOthers.setCell _ _ _)
    rcases (hrow.alloc tmp).2 with ⟨rfl, _⟩ | ⟨g, cap, cur, rfl, _, hgb, _⟩
    · simp [Value.ownBlock] at ej
    · obtain rfl : g = j := by simpa [Value.ownBlock] using ej
      rw [hgb] at hj; cases hj; rfl
  refine ⟨hv1, ⟨⟨v', hv1.set v', ?_⟩, h.marks.keeps fun D hD => (ko.same D _ (h.marks.at' D hD).2 rfl).trans (h.marks.at' D hD).2.symm, Blk.aside h.bp (by decide) n1 hrow hgrow, Blk.aside h.bt (by decide) n2 hrow hgrow, Blk.aside h.bg (by decide) n3 hrow hgrow, Blk.aside h.kx (by decide) n4 hrow hgrow, ?_⟩, ko⟩
  · have := hown'.kept (grownBy_setCell' w1 W2.heap.size v') (.inr (hv1.not_row hte hown').symm)
    rw [e, List.map_append, List.flatten_append, List.length_append, ← hys]
    rw [hm] at this
    exact this
  · refine h.b.trans (((Below.refl W2.heap.size W).alloc (by omega) tmp).grown hgrow (by simp; omega) fun j ej => ?_) |>.setCell (p := ⟨W2.heap.size, 0, none⟩) (Nat.le_refl _) v'
    rcases hrow.2 with ⟨rfl, _⟩ | ⟨g, cap, cur, rfl, hb, _, _⟩
    · simp [Value.ownBlock] at ej
    · obtain rfl : g = j := by simpa [Value.ownBlock] using ej
      omega
/-- A slot that is too short. -/
theorem RsInv.short {E : List Ev} {rt least : Int} {W2 : World} {P Bp Bt Bg X : Nat} {track gap : Int} {x : Th} {Ds : List Nat} {N : Nat} {pre : List (SlP N)} {W : World} (h : RsInv E rt least W2 P Bp Bt Bg X track gap x Ds pre W) {s : SlP N} (hs : (s.1.2 : Int) - s.1.1 + 1 < least) : RsInv E rt least W2 P Bp Bt Bg X track gap x Ds (pre ++ [s]) W := by
  have e : E ++ evsL rt least x ((pre ++ [s]).map (·.1)) = E ++ evsL rt least x (pre.map (·.1)) := by
    rw [List.map_append, List.map_cons, List.map_nil, evsL_snoc, if_pos hs, List.append_nil]
  exact ⟨by rw [e]; exact h.out, h.marks, h.bp, h.bt, h.bg, h.kx, h.b⟩
/-- The slots of a thing are read: one mark more. -/
theorem RsInv.next {qs : List Rw} {th : List Th} {rt least gap : Int} {W2 : World} {P Bp Bt Bg X : Nat} {k : Nat} (hk : k < th.length) {Ds : List Nat} {N : Nat} {pre : List (SlP N)} {W : World} (h : RsInv (rdE qs rt least gap (th.take k)) rt least W2 P Bp Bt Bg X (k + 1) gap th[k] Ds pre W) (hp : pre.map (·.1) = slotsP (holeF qs (k + 1)) gap qs.length) {D : Nat} (hD : D ∉ Ds) (hB : W2.heap.size ≤ D) (hK : W.heap[D]? = some (.deferred (some []))) : RdInv qs th rt least gap W2 W (k + 1) (D :: Ds) := by
  refine ⟨?_, h.marks.cons hD hB hK, h.b⟩
  have := h.out
  rw [hp] at this
  rw [rdE, evsT_take rt least _ hk]
  exact this
end Go.Proofs.YtppccacfdpkkgaaGreatDoor
