/-
  WALKS: Split of the program.
-/
import Derived.Test.YtoclgcneclbfiaaDoorW7
import Derived.Test.YtoclgcneclbfiaaDoorW4
import Derived.Test.YtoclgcneclbfiaaDoorW5
import Derived.RangeFuncLeaves
import Derived.Maps.AppendAt
import Derived.Laws.EntriesVeiled
namespace Go.Proofs.YtoclgcneclbfiaaDoor
open Go.RowKit Go.Shelf
attribute [local go_sem] Oper.semAt_some

theorem pieces_stops (n : Nat) (hn : 1 ≤ n) (Bl Be Bw : Nat) (line : ByteArray) (hs : line.size ≤ 1048676) (w : World)
    (hBl : Boxed w Bl 9 (.string line)) (hBe : Boxed w Be 89 (endsV Bw)) (hBw : Boxed w Bw 4 (.bool false)) (hne : Be ≠ Bw) :
    SeqStopsB Fence.wide n Tryd.prog 70 #[.pointer (some ⟨Bl, 0, none⟩), .pointer (some ⟨Be, 0, none⟩)] (fun x : Sm => #[Value.string x.1]) (KpB Be Bw) Bw
      (fun ys => ys.map LS = pieces (L line)) (fun pre => pre.map LS <+: pieces (L line)) (pieces (L line)).length w := fun l J Jx W hW _ _ hJ _ hY h0 =>
  pieces2_in n hn l Bl Be Bw line hs J Jx hJ hY W ((hW.cell (p := ⟨Bl, 0, none⟩) hBl.lt).trans hBl.cell) ((hW.block Be hBe.lt).trans hBe) ((hW.block Bw hBw.lt).trans hBw) hne h0

set_option maxHeartbeats 400000 in
theorem pieces_any (line : ByteArray) (w : World) :
    Calls Tryd.prog 51 #[.string line] w fun e w' => e = .returned (.func (.func 70) #[] #[.pointer (some ⟨w.heap.size, 0, none⟩), .pointer (some ⟨w.heap.size + 1 + 1, 0, none⟩)]) ∧
      ((w.alloc (.cells #[.string line] 9)).alloc (.cells #[.bool false] 4)).alloc (.cells #[endsV (w.heap.size + 1)] 89) = w' := by
  have hmf : ∀ (fn : Fn) (first cap : Array Value) (w : World), (Instr.makeFunc fn first cap).run Tryd.prog w = .ok (.func fn first cap) w := fun _ _ _ _ => rfl
  go_enter Tryd.func51, Tryd.ntmps51
  go_wp2
  go_ret
  exact ⟨rfl, rfl⟩
theorem info43 : (Tryd.prog.info? 43).map (fun i => (i.zero, i.size, i.bytes)) = some (some (.agg #[.bool false, .string ByteArray.empty]), 2, 24) := by kernel_rfl
/-- Fields as cells of a row; as data. -/
def fcells (fs : List (Bool × ByteArray)) : List Value := fs.flatMap fun f => [.bool f.1, .string f.2]
def fL (f : Bool × ByteArray) : Bool × List UInt8 := (f.1, L f.2)
theorem fcells_snoc (fs : List (Bool × ByteArray)) (b : Bool) (x : ByteArray) : fcells (fs ++ [(b, x)]) = fcells fs ++ [.bool b, .string x] := by simp [fcells]

/-- Behind 'out = append(out, ..)' at a box and a row with other numbers. -/
theorem appended2 {W w1 : World} {base B : Nat} {t e : TypeId} {size : Nat} {v v' : Value} {k m : Nat} {xs ys : List Value} {tmp : Obj}
    (hv : Boxed W B t v) (hte : t ≠ e) (hrow : W.ownsRow base e size v k xs)
    (hown' : w1.ownsRow base e size v' m ys) (hgrow : (W.alloc tmp).grownBy w1 v.ownBlock) :
    Boxed w1 B t v ∧ Boxed (w1.setCell ⟨B, 0, none⟩ v') B t v' ∧ (w1.setCell ⟨B, 0, none⟩ v').ownsRow base e size v' m ys ∧ KeepsOthers W (w1.setCell ⟨B, 0, none⟩ v') ∧
      (∀ n₀, n₀ ≤ B → n₀ ≤ base → n₀ ≤ W.heap.size → Below n₀ W (w1.setCell ⟨B, 0, none⟩ v')) ∧ (∀ B' t' u, B' ≠ B → t' ≠ e → Boxed W B' t' u → Boxed (w1.setCell ⟨B, 0, none⟩ v') B' t' u) ∧
      (∀ j, j < base → j < W.heap.size → j ≠ B → (w1.setCell ⟨B, 0, none⟩ v').heap[j]? = W.heap[j]?) := by
  have hv1 : Boxed w1 B t v := (hv.alloc tmp).kept hgrow (hv.not_row hte hrow)
  refine ⟨hv1, hv1.set v', hown'.kept (grownBy_setCell' w1 B v') (.inr (hv1.not_row hte hown').symm), ?_, ?_, ?_, ?_⟩
  · refine ((KeepsOthers.alloc W tmp).trans (KeepsOthers.of_grownBy hgrow fun j o ej hj => ?_)).trans (KeepsOthers.setCell _ _ _)
    rcases (hrow.alloc tmp).2 with ⟨rfl, _⟩ | ⟨g, cap, cur, rfl, _, hgb, _⟩
    · simp [Value.ownBlock] at ej
    · obtain rfl : g = j := by simpa [Value.ownBlock] using ej
      rw [hgb] at hj; cases hj; rfl
  · intro n₀ hB hbase hn₀
    refine (((Below.refl n₀ W).alloc hn₀ tmp).grown hgrow (by simp; omega) fun j ej => ?_).setCell (p := ⟨B, 0, none⟩) hB v'
    rcases hrow.2 with ⟨rfl, _⟩ | ⟨g, cap, cur, rfl, hb, _, _⟩
    · simp [Value.ownBlock] at ej
    · obtain rfl : g = j := by simpa [Value.ownBlock] using ej
      omega
  · intro B' t' u hne hte' hb
    exact ((hb.alloc tmp).kept hgrow (hb.not_row hte' hrow)).kept (grownBy_setCell' w1 B v') (fun e => by injection e with e; exact hne e)
  · intro j hj hjW hjB
    rw [Below.heap_setCell w1 ⟨B, 0, none⟩ v' j hjB, hgrow.block j (by simp; omega) ?_, Below.heap_alloc W tmp j hjW]
    rcases hrow.2 with ⟨rfl, _⟩ | ⟨g, cap, cur, rfl, hb, _, _⟩
    · simp [Value.ownBlock]
    · simp only [Value.ownBlock, ne_eq, Option.some.injEq]
      omega

/-- Between two rounds. -/
def SI (w : World) (pre : List Sm) (W : World) : Prop := ∃ (v : Value) (fs : List (Bool × ByteArray)), Boxed W (w.heap.size + 1 + 1) 33 v ∧ W.ownsRow (w.heap.size + 6) 43 2 v fs.length (fcells fs) ∧
  fieldsOf (pre.map LS) = some (fs.map fL) ∧ Boxed W w.heap.size 33 (.slice none 0 0) ∧ Boxed W (w.heap.size + 1) 23 (.int .i64 0) ∧ Below w.heap.size w W ∧ w.heap.size + 6 ≤ W.heap.size
/-- A round has left. -/
def SIx (w : World) (c : Code) (pre : List Sm) (W : World) : Prop := c = .ret ∧ fieldsOf (pre.map LS) = none ∧ Boxed W w.heap.size 33 (.slice none 0 0) ∧ Boxed W (w.heap.size + 1) 23 (.int .i64 6) ∧ Below w.heap.size w W
theorem boxed_ne {A : World} {row : Option Nat} {B : Nat} {t : TypeId} {v : Value} (h : Boxed A B t v) (hr : ∀ r, row = some r → ∃ o : Obj, A.heap[r]? = some o ∧ o.isCells = false) : some B ≠ row := fun e => by
  obtain ⟨o, ho, hc⟩ := hr B e.symm
  rw [show A.heap[B]? = _ from h] at ho; cases ho; cases hc
theorem row_ne {A : World} {row : Option Nat} {base : Nat} {t : TypeId} {size k : Nat} {v : Value} {xs : List Value} (h : A.ownsRow base t size v k xs) (hr : ∀ r, row = some r → ∃ o : Obj, A.heap[r]? = some o ∧ o.isCells = false) : v.ownBlock = none ∨ v.ownBlock ≠ row := by
  rcases h.2 with ⟨rfl, _⟩ | ⟨g, cap, cur, rfl, _, hgb, _⟩
  · exact .inl rfl
  · refine .inr fun e' => ?_
    obtain ⟨o, ho, hc⟩ := hr g (by simpa [Value.ownBlock] using e'.symm)
    rw [hgb] at ho; cases ho; cases hc
theorem row_far {A : World} {base B : Nat} {t : TypeId} {size k : Nat} {v : Value} {xs : List Value} (h : A.ownsRow base t size v k xs) (hB : B < base) : v.ownBlock = none ∨ v.ownBlock ≠ some B := by
  rcases h.2 with ⟨rfl, _⟩ | ⟨g, cap, cur, rfl, hg, _⟩
  · exact .inl rfl
  · refine .inr fun e' => ?_
    have : g = B := by simpa [Value.ownBlock] using e'
    omega
theorem SI_own (w : World) (B : Nat) (hB : w.heap.size ≤ B) : OwnFrom B (SI w) := by
  rintro s X Y row ⟨v, fs, h1, h2, h3, h4, h5, h6, h7⟩ hg hrow
  have hr := fun r e => (hrow r e).2
  exact ⟨v, fs, h1.kept hg (boxed_ne h1 hr), h2.kept hg (row_ne h2 hr), h3, h4.kept hg (boxed_ne h4 hr), h5.kept hg (boxed_ne h5 hr), h6.grown hg h6.size (fun k e => Nat.le_trans hB (hrow k e).1), Nat.le_trans h7 hg.size⟩
theorem SIx_own (w : World) (B : Nat) (hB : w.heap.size ≤ B) (c : Code) : OwnFrom B (SIx w c) := by
  rintro s X Y row ⟨h1, h3, h4, h5, h6⟩ hg hrow
  have hr := fun r e => (hrow r e).2
  exact ⟨h1, h3, h4.kept hg (boxed_ne h4 hr), h5.kept hg (boxed_ne h5 hr), h6.grown hg h6.size (fun k e => Nat.le_trans hB (hrow k e).1)⟩
theorem SI_bw (w : World) (s : List Sm) (X Y : World) (h : SI w s X) (hg : X.grownBy Y (some (w.heap.size + 1 + 1 + 1 + 1))) : SI w s Y := by
  obtain ⟨v, fs, h1, h2, h3, h4, h5, h6, h7⟩ := h
  exact ⟨v, fs, h1.kept hg (fun e => by injection e; omega), h2.kept hg (row_far h2 (by omega)), h3, h4.kept hg (fun e => by injection e; omega), h5.kept hg (fun e => by injection e; omega), h6.grown hg h6.size (fun k e => by injection e; omega), Nat.le_trans h7 hg.size⟩
theorem SIx_bw (w : World) (c : Code) (s : List Sm) (X Y : World) (h : SIx w c s X) (hg : X.grownBy Y (some (w.heap.size + 1 + 1 + 1 + 1))) : SIx w c s Y := by
  obtain ⟨h1, h3, h4, h5, h6⟩ := h
  exact ⟨h1, h3, h4.kept hg (fun e => by injection e; omega), h5.kept hg (fun e => by injection e; omega), h6.grown hg h6.size (fun k e => by injection e; omega)⟩
theorem boxed_later {W W' : World} {B : Nat} {t : TypeId} {v : Value} (h : Boxed W B t v) (hb : Below W.heap.size W W') : Boxed W' B t v := (hb.block B h.lt).trans h
theorem grown_none {W W' : World} (hb : Below W.heap.size W W') : W.grownBy W' none := ⟨hb.os, hb.tape, hb.output, hb.size, fun i hi _ => hb.block i hi⟩
theorem row_later {W W' : World} {base : Nat} {t : TypeId} {size k : Nat} {v : Value} {xs : List Value} (h : W.ownsRow base t size v k xs) (hb : Below W.heap.size W W') : W'.ownsRow base t size v k xs :=
  h.kept (grown_none hb) (row_ne h (fun r e => by cases e))
theorem row_base {W : World} {base base' : Nat} {t : TypeId} {size k : Nat} {v : Value} {xs : List Value} (h : W.ownsRow base t size v k xs) (hb : base' ≤ base) : W.ownsRow base' t size v k xs := by
  obtain ⟨h1, h2 | ⟨g, cap, cur, e1, e2, e3⟩⟩ := h
  · exact ⟨h1, .inl h2⟩
  · exact ⟨h1, .inr ⟨g, cap, cur, e1, Nat.le_trans hb e2, e3⟩⟩
theorem keeps_below {B : Nat} {W W' : World} (h : Below W.heap.size W W') : KeepsFrom B W W' := ⟨h.size, fun k _ _ hk _ => (h.block k (Array.getElem?_eq_some_iff.1 hk).1).trans hk⟩

theorem SIx_end {w W w1 : World} {B : Nat} {pre : List Sm} (hbW : Below W.heap.size W w1) (hr0 : Boxed W w.heap.size 33 (.slice none 0 0)) (hr1 : Boxed W (w.heap.size + 1) 23 (.int .i64 0)) (hB : Below w.heap.size w W) (hp : fieldsOf (pre.map LS) = none) :
    KeepsFrom B W ((w1.setCell ⟨w.heap.size, 0, none⟩ (.slice none 0 0)).setCell ⟨w.heap.size + 1, 0, none⟩ (.int .i64 6)) ∧ SIx w .ret pre ((w1.setCell ⟨w.heap.size, 0, none⟩ (.slice none 0 0)).setCell ⟨w.heap.size + 1, 0, none⟩ (.int .i64 6)) := by
  have r0 := boxed_later hr0 hbW
  have r1 := boxed_later hr1 hbW
  have s1 : Boxed (w1.setCell ⟨w.heap.size, 0, none⟩ (.slice none 0 0)) (w.heap.size + 1) 23 (.int .i64 0) := r1.kept (grownBy_setCell' _ _ _) (fun e => by injection e; omega)
  refine ⟨((keeps_below hbW).trans ((KeepsOthers.setCell _ _ _).from _)).trans ((KeepsOthers.setCell _ _ _).from _), rfl, hp, ?_, s1.set _, ?_⟩
  · exact (r0.set _).kept (grownBy_setCell' _ _ _) (fun e => by injection e; omega)
  · exact (((hB.trans (hbW.mono hB.size)).setCell (p := ⟨w.heap.size, 0, none⟩) (Nat.le_refl _) _).setCell (p := ⟨w.heap.size + 1, 0, none⟩) (by simp) _)

theorem hasQuote (x : ByteArray) (b : Bool) (h : startsQ (L x) = b) (w : World) : Calls Tryd.prog 52 #[.string x, .string ⟨#[34]⟩] w fun e w' => e = .returned (.bool b) ∧ w = w' :=
  (Tryd.strings_HasPrefix x ⟨#[34]⟩ w).mono fun _ _ ⟨he, hw⟩ => ⟨by rw [he, ← h]; rfl, hw.symm⟩
theorem unquote_ok (x q : ByteArray) (h : unquoteL (L x) = some (L q)) (w : World) (t : Tabs w) (hs : x.size ≤ 1048676) :
    Calls Tryd.prog 20 #[.string x] w fun e w' => e = .returned (.tuple #[.string q, .int .i64 0]) ∧ Below w.heap.size w w' :=
  (unquote_any x w t hs).mono fun _ _ ⟨he, hw⟩ => ⟨by rw [he, h]; exact ret_tup (eq_of_L rfl) rfl, hw⟩
theorem unquote_bad (x : ByteArray) (h : unquoteL (L x) = none) (w : World) (t : Tabs w) (hs : x.size ≤ 1048676) :
    Calls Tryd.prog 20 #[.string x] w fun e w' => e = .returned (.tuple #[.string ⟨#[]⟩, .int .i64 6]) ∧ Below w.heap.size w w' :=
  (unquote_any x w t hs).mono fun _ _ ⟨he, hw⟩ => ⟨by rw [he, h]; rfl, hw⟩
theorem right_b (q : Bool) (s : ByteArray) (b : Bool) (h : rightB q (L s) = b) (w : World) (hs : s.size ≤ maxLen) :
    Calls Tryd.prog 53 #[.agg #[.bool q, .string s]] w fun e w' => e = .returned (.bool b) ∧ Below w.heap.size w w' :=
  (right_any q s w hs).mono fun _ _ ⟨he, hw⟩ => ⟨by rw [he, h], hw⟩
def SplitEnds (line : ByteArray) (w : World) (e : Ending) (W' : World) : Prop := ∃ (v : Value) (fs : List (Bool × ByteArray)), e = .returned (.tuple #[v, .int .i64 (splitL (L line)).1]) ∧
  (splitL (L line)).2 = fs.map fL ∧ W'.ownsRow w.heap.size 43 2 v fs.length (fcells fs) ∧ Below w.heap.size w W'
/-- The frame of a round. -/
def a1 (w : World) (line : ByteArray) (x : ByteArray) : Act := { tmps := #[.string line, undef, .pointer (some ⟨w.heap.size, 0, none⟩), .pointer (some ⟨w.heap.size + 1, 0, none⟩), .pointer (some ⟨w.heap.size + 1 + 1, 0, none⟩), .string x, undef, undef, undef,
  .string line, .int .i64 line.size, .bool false, .string line, .bool false, .string line, .func (.func 70) #[] #[.pointer (some ⟨w.heap.size + 1 + 1 + 1, 0, none⟩), .pointer (some ⟨w.heap.size + 1 + 1 + 1 + 1 + 1, 0, none⟩)],
  .string x, undef, undef, undef, undef, undef, undef, undef, undef, undef, undef, undef, undef, undef, undef, undef, undef, undef, undef, undef, undef, undef, undef, undef, undef], defers := [] }

set_option maxRecDepth 100000 in
set_option maxHeartbeats 2000000 in
theorem split_run (line : ByteArray) (w : World) (t : Tabs w) (hs : line.size ≤ 4096) (hne : line.toList = [] → False) :
    CallsIn Fence.wide 10 Tryd.prog 26 #[.string line] w (SplitEnds line w) := by
  obtain ⟨i0, hi, hz0, hz1, hz2⟩ := info_parts info43
  have h2 : line.toList.isEmpty = false := by cases h : line.toList with | nil => exact (hne h).elim | cons _ _ => rfl
  have h3 : decide (4096 < (line.size : Int)) = false := by rw [decide_eq_false_iff_not]; omega
  have hN := pieces_length (L line)
  rw [L_length] at hN
  refine callsIn_of_wp_marks Tryd.func26 rfl trivial ?_ rfl
  simp only [Tryd.ntmps26, List.size_toArray, List.length_cons, List.length_nil, Nat.reduceAdd, Nat.reduceSub, Array.replicate_succ, Array.replicate_zero, List.push_toArray, List.append_toArray, List.nil_append, List.cons_append]
  gi_wp2_with (refine ⟨trivial, ?_⟩; gi_at_call 51; refine (callsIn_wide.2 (pieces_any _ _)).mono ?_; rintro e w' ⟨rfl, rfl⟩)
  have b0 := Boxed.new w 33 (.slice none 0 0)
  have b1 := Boxed.new (w.alloc (.cells #[.slice none 0 0] 33)) 23 (.int .i64 0)
  have b2 := Boxed.new ((w.alloc (.cells #[.slice none 0 0] 33)).alloc (.cells #[.int .i64 0] 23)) 33 (.slice none 0 0)
  have b3 := Boxed.new (((w.alloc (.cells #[.slice none 0 0] 33)).alloc (.cells #[.int .i64 0] 23)).alloc (.cells #[.slice none 0 0] 33)) 9 (.string line)
  have b4 := Boxed.new ((((w.alloc (.cells #[.slice none 0 0] 33)).alloc (.cells #[.int .i64 0] 23)).alloc (.cells #[.slice none 0 0] 33)).alloc (.cells #[.string line] 9)) 4 (.bool false)
  have b5 := Boxed.new (((((w.alloc (.cells #[.slice none 0 0] 33)).alloc (.cells #[.int .i64 0] 23)).alloc (.cells #[.slice none 0 0] 33)).alloc (.cells #[.string line] 9)).alloc (.cells #[.bool false] 4)) 89 (endsV (w.heap.size + 1 + 1 + 1 + 1))
  simp only [World.size_alloc] at b1 b2 b3 b4 b5
  replace b0 := ((((b0.alloc (.cells #[.int .i64 0] 23)).alloc (.cells #[.slice none 0 0] 33)).alloc (.cells #[.string line] 9)).alloc (.cells #[.bool false] 4)).alloc (.cells #[endsV (w.heap.size + 1 + 1 + 1 + 1)] 89)
  replace b1 := (((b1.alloc (.cells #[.slice none 0 0] 33)).alloc (.cells #[.string line] 9)).alloc (.cells #[.bool false] 4)).alloc (.cells #[endsV (w.heap.size + 1 + 1 + 1 + 1)] 89)
  replace b2 := ((b2.alloc (.cells #[.string line] 9)).alloc (.cells #[.bool false] 4)).alloc (.cells #[endsV (w.heap.size + 1 + 1 + 1 + 1)] 89)
  replace b3 := (b3.alloc (.cells #[.bool false] 4)).alloc (.cells #[endsV (w.heap.size + 1 + 1 + 1 + 1)] 89)
  replace b4 := b4.alloc (.cells #[endsV (w.heap.size + 1 + 1 + 1 + 1)] 89)
  have hB0 : Below w.heap.size w ((((((w.alloc (.cells #[.slice none 0 0] 33)).alloc (.cells #[.int .i64 0] 23)).alloc (.cells #[.slice none 0 0] 33)).alloc (.cells #[.string line] 9)).alloc (.cells #[.bool false] 4)).alloc (.cells #[endsV (w.heap.size + 1 + 1 + 1 + 1)] 89)) :=
    ((((((Below.refl _ w).alloc (Nat.le_refl _) _).alloc (by simp) _).alloc (by simp; omega) _).alloc (by simp; omega) _).alloc (by simp; omega) _).alloc (by simp; omega) _
  have hsz : ((((((w.alloc (.cells #[.slice none 0 0] 33)).alloc (.cells #[.int .i64 0] 23)).alloc (.cells #[.slice none 0 0] 33)).alloc (.cells #[.string line] 9)).alloc (.cells #[.bool false] 4)).alloc (.cells #[endsV (w.heap.size + 1 + 1 + 1 + 1)] 89)).heap.size = w.heap.size + 6 := by simp
  generalize ((((((w.alloc (.cells #[.slice none 0 0] 33)).alloc (.cells #[.int .i64 0] 23)).alloc (.cells #[.slice none 0 0] 33)).alloc (.cells #[.string line] 9)).alloc (.cells #[.bool false] 4)).alloc (.cells #[endsV (w.heap.size + 1 + 1 + 1 + 1)] 89)) = W0 at b0 b1 b2 b3 b4 b5 hB0 hsz ⊢
  have HS := Lib.hid hsz
  have hle : w.heap.size + 6 ≤ W0.heap.size := by omega
  clear hsz
  refine wpIn_rangeFunc_ownB rfl (by decide) (gf := 70) (lb := #[.pointer (some ⟨w.heap.size + 1 + 1 + 1, 0, none⟩), .pointer (some ⟨w.heap.size + 1 + 1 + 1 + 1 + 1, 0, none⟩)]) rfl trivial (enters_of Tryd.func70 (by kernel_rfl) rfl)
    (w.heap.size + 1 + 1 + 1 + 1) (by omega) (pieces_stops 9 (by decide) (w.heap.size + 1 + 1 + 1) (w.heap.size + 1 + 1 + 1 + 1 + 1) (w.heap.size + 1 + 1 + 1 + 1) line (by omega) W0 b3 b5 b4 (by omega))
    (fun h k => ⟨k.1.trans h.1, k.2.trans h.2⟩) (fun W l o o' hl _ _ _ => ⟨World.putObj_heap_other (by omega), World.putObj_heap_other (by omega)⟩) (Below.refl _ _) (fun _ => rfl)
    (SI w) (SIx w) (SI_own w _ (by omega)) (fun c => SIx_own w _ (by omega) c) (SI_bw w) (SIx_bw w)
    ⟨_, [], b2, World.ownsRow_nil _ _ _ _, rfl, b0, b1, hB0, hle⟩ (fun x => a1 w line x.1) ?assign ?body ?done ?stop
  case assign =>
    intro l x W K hK
    gi_wp2
    exact hK
  case body =>
    rintro l pre x W ⟨v, fs, hv, hrow, hfl, hr0, hr1, hB, hW6⟩ hlt
    have hxs : x.1.size ≤ maxLen := by have := x.2; unfold maxLen; omega
    have hfn := fieldsOf_length hfl
    simp only [List.length_map] at hfn
    have HF := Lib.hid hfn
    have hfb : fs.length ≤ 4097 := by omega
    clear hfn
    have hWsz := hB.size
    have tW : Tabs W := t.below hB
    have c0 := hr0.cell
    have f0 := hr0.frozen
    have c1 := hr1.cell
    have f1 := hr1.frozen
    cases hq : startsQ (L x.1)
    · cases hb : bareB (L x.1)
      · have hp := fieldsOf_snoc_none (l := pre.map LS) (fieldOf_none hq hb)
        have HP := Lib.hid hp
        clear hp
        unfold a1
        gi_wp2_with (refine ⟨trivial, ?_⟩; gi_at_call 52; refine (CallsIn.inRound l (callsIn_wide.2 (hasQuote _ _ hq _))).mono ?_; rintro e w' ⟨rfl, rfl⟩)
        refine ⟨trivial, ?_⟩
        refine (CallsIn.inRound l (callsIn_wide.2 (right_b false _ false hb _ hxs))).mono ?_
        rintro e w1 ⟨rfl, hb1⟩
        have hbW : Below W.heap.size W w1 := ((Below.refl _ W).alloc (Nat.le_refl _) _).trans (hb1.mono (by simp))
        have r0 := boxed_later hr0 hbW
        have r1 := boxed_later hr1 hbW
        have cr0 := r0.cell
        have fr0 := r0.frozen
        have cr1 := r1.cell
        have fr1 := r1.frozen
        gi_wp2
        exact SIx_end hbW hr0 hr1 hB (by rw [List.map_append]; exact HP.out)
      · have hp := Lib.hid (fieldOf_bare hq hb)
        unfold a1
        gi_wp2_with (refine ⟨trivial, ?_⟩; gi_at_call 52; refine (CallsIn.inRound l (callsIn_wide.2 (hasQuote _ _ hq _))).mono ?_; rintro e w' ⟨rfl, rfl⟩)
        refine ⟨trivial, ?_⟩
        refine (CallsIn.inRound l (callsIn_wide.2 (right_b false _ true hb _ hxs))).mono ?_
        rintro e w1 ⟨rfl, hb1⟩
        have hbW : Below W.heap.size W w1 := ((Below.refl _ W).alloc (Nat.le_refl _) _).trans (hb1.mono (by simp))
        have v1 := boxed_later hv hbW
        have row1 := row_later hrow hbW
        have cv1 := v1.cell
        have ce0 : w1.cell? ⟨W.heap.size, 0, none⟩ = some (.bool false) := (hb1.cell (by simp)).trans (by simp)
        have ce1 : w1.cell? ⟨W.heap.size, 1, none⟩ = some (.string x.1) := (hb1.cell (by simp)).trans (by simp)
        have hz1' := hb1.size
        simp only [World.size_alloc] at hz1'
        gi_wp2_with (gi_at_builtin; refine wpListIn_append_own _ rfl _ _ 33 rfl (w.heap.size + 6) 43 i0 (.agg #[.bool false, .string ByteArray.empty]) 2 24 Tryd.underlying33 hi hz0 hz1 hz2 rfl (by decide) _ _ _ rfl (row1.alloc _) ⟨w1.heap.size, 0, none⟩ 1 1 [.bool false, .string x.1] rfl rfl (cell_two_new _ _ _ _) (by simp [Value.oneCell']) (by unfold maxLen; omega) (by omega) (by simp; omega) ?_; intro v' w2 hown' hgrow _; obtain ⟨g', cap', rfl⟩ := ownsRow_succ hown'; obtain ⟨hv1, hv2, hr2, hk2, hb2, ho2, hj2⟩ := appended2 v1 (by decide) row1 hown' hgrow; have hc2 := hv1.cell; have hf2 := hv1.frozen)
        refine ⟨(keeps_below hbW).trans (hk2.from _), ⟨(hj2 _ (by omega) (by omega) (by omega)).trans (hbW.block _ (by omega)), (hj2 _ (by omega) (by omega) (by omega)).trans (hbW.block _ (by omega))⟩, ?_⟩
        refine ⟨_, fs ++ [(false, x.1)], hv2, by simpa [fcells] using hr2, ?_, ho2 _ _ _ (by omega) (by decide) (boxed_later hr0 hbW), ho2 _ _ _ (by omega) (by decide) (boxed_later hr1 hbW), hB.trans ((hbW.mono hWsz).trans (hb2 _ (by omega) (by omega) (by omega))), Nat.le_trans hW6 (Nat.le_trans hbW.size hk2.size)⟩
        rw [List.map_append, List.map_append]
        exact fieldsOf_snoc hfl hp.out
    · cases hu : unquoteL (L x.1) with
      | none =>
        have HP := Lib.hid (fieldsOf_snoc_none (l := pre.map LS) (fieldOf_bad hq hu))
        unfold a1
        gi_wp2_with (refine ⟨trivial, ?_⟩; gi_at_call 52; refine (CallsIn.inRound l (callsIn_wide.2 (hasQuote _ _ hq _))).mono ?_; rintro e w' ⟨rfl, rfl⟩)
        refine ⟨trivial, ?_⟩
        refine (CallsIn.inRound l (callsIn_wide.2 (unquote_bad _ hu _ (tW.below ((Below.refl _ W).alloc (Nat.le_refl _) _)) x.2))).mono ?_
        rintro e w1 ⟨rfl, hb1⟩
        have hbW : Below W.heap.size W w1 := ((Below.refl _ W).alloc (Nat.le_refl _) _).trans (hb1.mono (by simp))
        have r0 := boxed_later hr0 hbW
        have r1 := boxed_later hr1 hbW
        have cr0 := r0.cell
        have fr0 := r0.frozen
        have cr1 := r1.cell
        have fr1 := r1.frozen
        gi_wp2
        exact SIx_end hbW hr0 hr1 hB (by rw [List.map_append]; exact HP.out)
      | some tl =>
        obtain ⟨q, hqL⟩ := mkL tl
        rw [← hqL] at hu
        have hp := Lib.hid (fieldOf_quoted hq hu)
        have htx : rightB true (L q) = true := unquote_text hu
        have hql := textB_le htx
        rw [L_length] at hql
        have hqm : q.size ≤ maxLen := by unfold maxLen; omega
        unfold a1
        gi_wp2_with (refine ⟨trivial, ?_⟩; gi_at_call 52; refine (CallsIn.inRound l (callsIn_wide.2 (hasQuote _ _ hq _))).mono ?_; rintro e w' ⟨rfl, rfl⟩)
        refine ⟨trivial, ?_⟩
        refine (CallsIn.inRound l (callsIn_wide.2 (unquote_ok _ q hu _ (tW.below ((Below.refl _ W).alloc (Nat.le_refl _) _)) x.2))).mono ?_
        rintro e w1 ⟨rfl, hb1⟩
        have hbW1 : Below W.heap.size W w1 := ((Below.refl _ W).alloc (Nat.le_refl _) _).trans (hb1.mono (by simp))
        have hw1 := hb1.size
        simp only [World.size_alloc] at hw1
        have ce0 : w1.cell? ⟨W.heap.size, 0, none⟩ = some (.bool false) := (hb1.cell (by simp)).trans (by simp)
        have ce1 : w1.cell? ⟨W.heap.size, 1, none⟩ = some (.string x.1) := (hb1.cell (by simp)).trans (by simp)
        have fe0 : w1.frozen? ⟨W.heap.size, 0, none⟩ = false := (hb1.frozen (by simp)).trans (by simp)
        have fe1 : w1.frozen? ⟨W.heap.size, 1, none⟩ = false := (hb1.frozen (by simp)).trans (by simp)
        gi_wp2_with fail
        have hbW2 : Below W.heap.size W ((w1.setCell ⟨W.heap.size, 0, none⟩ (.bool true)).setCell ⟨W.heap.size, 1, none⟩ (.string q)) :=
          (hbW1.setCell (p := ⟨W.heap.size, 0, none⟩) (Nat.le_refl _) _).setCell (p := ⟨W.heap.size, 1, none⟩) (Nat.le_refl _) _
        have hsz2 : ((w1.setCell ⟨W.heap.size, 0, none⟩ (.bool true)).setCell ⟨W.heap.size, 1, none⟩ (.string q)).heap.size = w1.heap.size := by simp [World.setCell]
        have cf0 : ((w1.setCell ⟨W.heap.size, 0, none⟩ (.bool true)).setCell ⟨W.heap.size, 1, none⟩ (.string q)).cell? ⟨W.heap.size, 0, none⟩ = some (.bool true) := by
          rw [World.cell?_setCell_other _ _ _ _ (by simp)]; exact World.cell?_setCell_same' _ _ _ (by rw [ce0]; rfl)
        have cf1 : ((w1.setCell ⟨W.heap.size, 0, none⟩ (.bool true)).setCell ⟨W.heap.size, 1, none⟩ (.string q)).cell? ⟨W.heap.size, 1, none⟩ = some (.string q) :=
          World.cell?_setCell_same' _ _ _ (by rw [World.cell?_setCell_other _ _ _ _ (by simp), ce1]; rfl)
        generalize ((w1.setCell ⟨W.heap.size, 0, none⟩ (.bool true)).setCell ⟨W.heap.size, 1, none⟩ (.string q)) = W2 at hbW2 hsz2 cf0 cf1 ⊢
        have HZ : w1.heap.size ≤ W2.heap.size := by omega
        clear hsz2 ce0 ce1 fe0 fe1
        refine ⟨trivial, ?_⟩
        refine (CallsIn.inRound l (callsIn_wide.2 (right_b true _ true htx _ hqm))).mono ?_
        rintro e w2 ⟨rfl, hb2⟩
        have hbW : Below W.heap.size W w2 := hbW2.trans (hb2.mono hbW2.size)
        have v1 := boxed_later hv hbW
        have row1 := row_later hrow hbW
        have cv1 := v1.cell
        have ce0 : w2.cell? ⟨W.heap.size, 0, none⟩ = some (.bool true) := (hb2.cell (by simp; omega)).trans cf0
        have ce1 : w2.cell? ⟨W.heap.size, 1, none⟩ = some (.string q) := (hb2.cell (by simp; omega)).trans cf1
        have hz1' := hb2.size
        clear cf0 cf1
        gi_wp2_with (gi_at_builtin; refine wpListIn_append_own _ rfl _ _ 33 rfl (w.heap.size + 6) 43 i0 (.agg #[.bool false, .string ByteArray.empty]) 2 24 Tryd.underlying33 hi hz0 hz1 hz2 rfl (by decide) _ _ _ rfl (row1.alloc _) ⟨w2.heap.size, 0, none⟩ 1 1 [.bool true, .string q] rfl rfl (cell_two_new _ _ _ _) (by simp [Value.oneCell']) (by unfold maxLen; omega) (by omega) (by simp; omega) ?_; intro v' w3 hown' hgrow _; obtain ⟨g', cap', rfl⟩ := ownsRow_succ hown'; obtain ⟨hv1, hv2, hr2, hk2, hb2, ho2, hj2⟩ := appended2 v1 (by decide) row1 hown' hgrow; have hc2 := hv1.cell; have hf2 := hv1.frozen)
        refine ⟨(keeps_below hbW).trans (hk2.from _), ⟨(hj2 _ (by omega) (by omega) (by omega)).trans (hbW.block _ (by omega)), (hj2 _ (by omega) (by omega) (by omega)).trans (hbW.block _ (by omega))⟩, ?_⟩
        refine ⟨_, fs ++ [(true, q)], hv2, by simpa [fcells] using hr2, ?_, ho2 _ _ _ (by omega) (by decide) (boxed_later hr0 hbW), ho2 _ _ _ (by omega) (by decide) (boxed_later hr1 hbW), hB.trans ((hbW.mono hWsz).trans (hb2 _ (by omega) (by omega) (by omega))), Nat.le_trans hW6 (Nat.le_trans hbW.size hk2.size)⟩
        rw [List.map_append, List.map_append]
        exact fieldsOf_snoc hfl hp.out
  case done =>
    rintro D ys W hD hys ⟨v, fs, hv, hrow, hfl, hr0, hr1, hB, hW6⟩ hK
    have hlen := fieldsOf_length hfl
    rw [hys] at hfl hlen
    have hpos := pieces_pos (L line)
    have hsp := Lib.hid (splitL_some (by rw [L_length]; exact hs) (fun e => hne (by rw [Lib.toList_data]; exact e)) hfl)
    obtain ⟨k, hk⟩ : ∃ k, fs.length = k + 1 := ⟨fs.length - 1, by simp at hlen; omega⟩
    obtain ⟨g, cap, rfl⟩ := ownsRow_succ (hk ▸ hrow)
    rw [← hk] at hv hrow
    have hkb : k ≤ 4096 := by simp at hlen; omega
    have HK := Lib.hid hk
    have cv := hv.cell
    have c0 := hr0.cell
    have f0 := hr0.frozen
    have c1 := hr1.cell
    have f1 := hr1.frozen
    clear hlen hpos hfl hys hk
    have fin : ∀ (a : Value) (b : Int), (((W.setCell ⟨w.heap.size, 0, none⟩ a).setCell ⟨w.heap.size + 1, 0, none⟩ (.int .i64 b)).heap[D]? = some (.deferred (some []))) ∧
        Boxed ((W.setCell ⟨w.heap.size, 0, none⟩ a).setCell ⟨w.heap.size + 1, 0, none⟩ (.int .i64 b)) w.heap.size 33 a ∧
        Boxed ((W.setCell ⟨w.heap.size, 0, none⟩ a).setCell ⟨w.heap.size + 1, 0, none⟩ (.int .i64 b)) (w.heap.size + 1) 23 (.int .i64 b) ∧
        Below w.heap.size w ((W.setCell ⟨w.heap.size, 0, none⟩ a).setCell ⟨w.heap.size + 1, 0, none⟩ (.int .i64 b)) := fun a b =>
      ⟨(Below.heap_setCell _ ⟨w.heap.size + 1, 0, none⟩ _ D (by simp; omega)).trans ((Below.heap_setCell W ⟨w.heap.size, 0, none⟩ _ D (by simp; omega)).trans hK),
        (hr0.set a).kept (grownBy_setCell' _ _ _) (fun e => by injection e; omega),
        (hr1.kept (grownBy_setCell' _ _ _) (fun e => by injection e; omega)).set _,
        (hB.setCell (p := ⟨w.heap.size, 0, none⟩) (Nat.le_refl _) _).setCell (p := ⟨w.heap.size + 1, 0, none⟩) (by simp) _⟩
    by_cases h64 : 64 < fs.length
    · gi_wp2
      obtain ⟨hK', s0, s1, hB'⟩ := fin (.slice none 0 0) 3
      refine ⟨by simp, .inl ⟨_, _, rfl, run_takeDeferred hK', ?_⟩⟩
      have c5 := cell_kept s0.cell (grownBy_putObj' _ D (.deferred none)) (fun r e => by cases e; exact ⟨_, hK', rfl⟩)
      have c6 := cell_kept s1.cell (grownBy_putObj' _ D (.deferred none)) (fun r e => by cases e; exact ⟨_, hK', rfl⟩)
      have hs2 := hsp.out
      rw [if_pos (by simpa using h64)] at hs2
      refine ⟨.tuple #[.slice none 0 0, .int .i64 3], ?_, .slice none 0 0, [], by rw [hs2], by rw [hs2]; rfl, World.ownsRow_nil _ _ _ _, hB'.trans (belowK_b (w := w) (Nat.le_refl _) _ D _ _ (by omega) hK' rfl rfl)⟩
      simp [results, Tryd.f26, go_sem, c5, c6]
    · gi_wp2
      obtain ⟨hK', s0, s1, hB'⟩ := fin (.slice (some ⟨g, 0, none⟩) fs.length cap) 0
      refine ⟨by simp, .inl ⟨_, _, rfl, run_takeDeferred hK', ?_⟩⟩
      have c5 := cell_kept s0.cell (grownBy_putObj' _ D (.deferred none)) (fun r e => by cases e; exact ⟨_, hK', rfl⟩)
      have c6 := cell_kept s1.cell (grownBy_putObj' _ D (.deferred none)) (fun r e => by cases e; exact ⟨_, hK', rfl⟩)
      have hs2 := hsp.out
      rw [if_neg (by simpa using h64)] at hs2
      have rowf := ownsRow_putObj ((hrow.kept (grownBy_setCell' W w.heap.size (.slice (some ⟨g, 0, none⟩) fs.length cap)) (row_far hrow (by omega))).kept (grownBy_setCell' _ (w.heap.size + 1) (.int .i64 0)) (row_far hrow (by omega))) (.deferred none) hK' rfl
      refine ⟨.tuple #[.slice (some ⟨g, 0, none⟩) fs.length cap, .int .i64 0], ?_, _, fs, by rw [hs2], by rw [hs2], row_base rowf (by omega), hB'.trans (belowK_b (w := w) (Nat.le_refl _) _ D _ _ (by omega) hK' rfl rfl)⟩
      simp [results, Tryd.f26, go_sem, c5, c6]
  case stop =>
    rintro D c pre W hD hpre ⟨rfl, hfl, hr0, hr1, hB⟩ hK
    have hsp := splitL_none (by rw [L_length]; exact hs) (fun e => hne (by rw [Lib.toList_data]; exact e)) (fieldsOf_prefix hfl hpre)
    have HS := Lib.hid hsp
    clear hsp
    gi_wp2
    refine ⟨by simp, .inl ⟨_, _, rfl, run_takeDeferred hK, ?_⟩⟩
    have c5 := cell_kept hr0.cell (grownBy_putObj' _ D (.deferred none)) (fun r e => by cases e; exact ⟨_, hK, rfl⟩)
    have c6 := cell_kept hr1.cell (grownBy_putObj' _ D (.deferred none)) (fun r e => by cases e; exact ⟨_, hK, rfl⟩)
    refine ⟨.tuple #[.slice none 0 0, .int .i64 6], ?_, .slice none 0 0, [], by rw [HS.out], by rw [HS.out]; rfl, World.ownsRow_nil _ _ _ _, hB.trans (belowK_b (w := w) (Nat.le_refl _) W D _ _ (by omega) hK rfl rfl)⟩
    simp [results, Tryd.f26, go_sem, c5, c6]
set_option maxHeartbeats 400000 in
theorem split_long (line : ByteArray) (w : World) (hs : 4096 < line.size) :
    Calls Tryd.prog 26 #[.string line] w (SplitEnds line w) := by
  have HS := Lib.hid (show splitL (L line) = (3, []) by unfold splitL; rw [if_pos (by rw [L_length]; exact hs)])
  have hB : Below w.heap.size w ((w.alloc (.cells #[.slice none 0 0] 33)).alloc (.cells #[.int .i64 3] 23)) := ((Below.refl _ w).alloc (Nat.le_refl _) _).alloc (by simp) _
  go_enter Tryd.func26, Tryd.ntmps26
  go_wp2
  exact bodyPost_ret (v := .tuple #[.slice none 0 0, .int .i64 3]) (by simp [results, Tryd.f26, go_sem]) rfl ⟨_, [], by rw [HS.out], by rw [HS.out]; rfl, World.ownsRow_nil _ _ _ _, hB⟩
set_option maxHeartbeats 400000 in
theorem split_empty (line : ByteArray) (w : World) (hs : line.toList = []) :
    Calls Tryd.prog 26 #[.string line] w (SplitEnds line w) := by
  have hz := (toList_nil line).1 hs
  have HS := Lib.hid (show splitL (L line) = (0, []) by unfold splitL; rw [if_neg (by rw [L_length]; omega), if_pos (by rw [← List.length_eq_zero_iff, L_length]; exact hz)])
  have hB : Below w.heap.size w ((w.alloc (.cells #[.slice none 0 0] 33)).alloc (.cells #[.int .i64 0] 23)) := ((Below.refl _ w).alloc (Nat.le_refl _) _).alloc (by simp) _
  have h1 : line.toList.isEmpty = true := by rw [hs]; rfl
  have HZ := Lib.hid hz
  have hz2 : line.size ≤ 10 := by omega
  clear hz hs
  go_enter Tryd.func26, Tryd.ntmps26
  go_wp2
  exact bodyPost_ret (v := .tuple #[.slice none 0 0, .int .i64 0]) (by simp [results, Tryd.f26, go_sem]) rfl ⟨_, [], by rw [HS.out], by rw [HS.out]; rfl, World.ownsRow_nil _ _ _ _, hB⟩
theorem split_any (line : ByteArray) (w : World) (t : Tabs w) : Calls Tryd.prog 26 #[.string line] w (SplitEnds line w) := by
  by_cases h1 : 4096 < line.size
  · exact split_long line w h1
  by_cases h2 : line.toList = []
  · exact split_empty line w h2
  · exact callsIn_wide.1 (split_run line w t (by omega) h2)
end Go.Proofs.YtoclgcneclbfiaaDoor
