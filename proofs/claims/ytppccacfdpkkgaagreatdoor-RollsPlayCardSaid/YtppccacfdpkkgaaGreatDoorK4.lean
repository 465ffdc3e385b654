/-
  CONTRACTS: load, Check.
-/
import Derived.Test.YtppccacfdpkkgaaGreatDoorK3
import Derived.Test.YtppccacfdpkkgaaGreatDoorH
namespace Go.Proofs.YtppccacfdpkkgaaGreatDoor
open Go.RowKit
/-- A paper in memory: its block P, its rows. -/
structure PapB (W : World) (base P : Nat) (tr : Int) (G cap : Nat) (qs : List Rw) : Prop where
  p : Blk W P 86 #[.int .i64 tr, .slice (some ⟨G, 0, none⟩) qs.length cap]
  r : RwB W G cap qs
  pb : base ≤ P
  gb : base ≤ G
  c : cap ≤ maxLen
  ok : ∀ q ∈ qs, RwOk q
theorem PapB.below {W W' : World} {base P : Nat} {tr : Int} {G cap : Nat} {qs : List Rw} (h : PapB W base P tr G cap qs) (hb : Below W.heap.size W W') : PapB W' base P tr G cap qs := ⟨h.p.below hb, h.r.below hb, h.pb, h.gb, h.c, h.ok⟩
/-- A paper in memory, its rows' slice v (nil, maybe). -/
structure Pap (W : World) (base P : Nat) (tr : Int) (v : Value) (qs : List Rw) : Prop where
  p : Blk W P 86 #[.int .i64 tr, v]
  r : W.ownsRow base 89 2 v qs.length (qs.map rwC).flatten
  pb : base ≤ P
  ok : ∀ q ∈ qs, RwOk q
theorem Pap.below {W W' : World} {base P : Nat} {tr : Int} {v : Value} {qs : List Rw} (h : Pap W base P tr v qs) (hb : Below W.heap.size W W') : Pap W' base P tr v qs := ⟨h.p.below hb, row_later h.r hb, h.pb, h.ok⟩
theorem PapB.pap {W : World} {base P : Nat} {tr : Int} {G cap : Nat} {qs : List Rw} (h : PapB W base P tr G cap qs) : Pap W base P tr (.slice (some ⟨G, 0, none⟩) qs.length cap) qs := ⟨h.p, h.r.row rwC_len h.gb h.c, h.pb, h.ok⟩
theorem Pap.form {W : World} {base P : Nat} {tr : Int} {v : Value} {qs : List Rw} (h : Pap W base P tr v qs) : ∃ a c, v = .slice a qs.length c := by
  rcases h.r.2 with ⟨e, e0⟩ | ⟨g, cap, cur, e, _⟩
  · exact ⟨none, 0, by rw [e, e0]⟩
  · exact ⟨_, _, e⟩
theorem Pap.b {W : World} {base P : Nat} {tr : Int} {v : Value} {qs : List Rw} (h : Pap W base P tr v qs) (h0 : 0 < qs.length) : ∃ G cap, v = .slice (some ⟨G, 0, none⟩) qs.length cap ∧ PapB W base P tr G cap qs := by
  have hr := h.r
  rcases h.r.2 with ⟨e, e0⟩ | ⟨g, cap, cur, e, _⟩
  · omega
  · subst e
    obtain ⟨h1, h2, h3, _⟩ := EnB.of_row hr
    exact ⟨g, cap, rfl, h.p, h1, h.pb, h2, h3, h.ok⟩
theorem rwB_ne {W : World} {G cap P : Nat} {qs : List Rw} {cs : Array Value} {t : TypeId} (h : RwB W G cap qs) (hp : Blk W P t cs) (ht : t ≠ 89) : P ≠ G := by
  intro e
  obtain ⟨⟨cur, hk, _⟩, _⟩ := h
  subst e
  have hp' : W.heap[P]? = some (.cells cs t (0, 0)) := hp
  rw [show W.heap[P]? = _ from hk] at hp'
  have : (Obj.cells cur 89 (0, 0)) = .cells cs t (0, 0) := Option.some.inj hp'
  injection this with _ h2
  exact ht h2.symm
theorem Blk.kept' {W W' : World} {B : Nat} {t : TypeId} {cs : Array Value} {b : Nat} (h : Blk W B t cs) (hg : W.grownBy W' (some b)) (hne : B ≠ b) : Blk W' B t cs := (hg.block B h.lt (fun e => hne (Option.some.inj e))).trans h
/-- While load reads: k numbers of row i are put. -/
structure LdInv (R : Ro) (g : Bool) (v : Value) (w wr : World) (i k : Nat) (qs : List Rw) : Prop where
  len : qs.length = R.rows.length
  pap : PapB wr w.heap.size (w.heap.size + 1 + 1) R.tracks (w.heap.size + 1) R.rows.length qs
  x : Blk wr w.heap.size 36 #[.int .i64 R.tracks, v]
  done : ∀ j (hj : j < qs.length) (hr : j < R.rows.length), j < i → Holds qs[j] R.rows[j]
  now : ∀ (hj : i < qs.length) (hr : i < R.rows.length), Holds qs[i] (R.rows[i].take k)
  rest : ∀ j (hj : j < qs.length), i < j → qs[j] = rw0
  err : ∀ j (hj : j < R.rows.length), j < i → rowErr R.tracks g R.rows[j] = 0
  errk : ∀ (hr : i < R.rows.length), firstErr (numErr R.tracks R.rows[i]) k = 0
  b : Below w.heap.size w wr
/-- The rows as holes. -/
structure QsOf (qs : List Rw) (R : Ro) : Prop where
  len : qs.length = R.rows.length
  at' : ∀ j (hj : j < qs.length) (hr : j < R.rows.length), Holds qs[j] R.rows[j]
/-- How load ends. -/
def LdEnds (R : Ro) (g : Bool) (w : World) (e : Ending) (w' : World) : Prop :=
  Below w.heap.size w w' ∧ ((rollErr R g ≠ 0 ∧ e = .returned (.tuple #[.pointer none, .int .i64 (rollErr R g)])) ∨
    (rollErr R g = 0 ∧ ∃ P v qs, e = .returned (.tuple #[.pointer (some ⟨P, 0, none⟩), .int .i64 0]) ∧ Pap w' w.heap.size P R.tracks v qs ∧ QsOf qs R))
theorem ldEnds_err {R : Ro} {g : Bool} {w w' : World} {n : Int} (hb : Below w.heap.size w w') (he : rollErr R g = n) (h0 : n ≠ 0) : LdEnds R g w (.returned (.tuple #[.pointer none, .int .i64 n])) w' :=
  ⟨hb, .inl ⟨by rw [he]; exact h0, by rw [he]⟩⟩
theorem LdInv.bad {R : Ro} {g : Bool} {v : Value} {w wr : World} {i k : Nat} {qs : List Rw} (h : LdInv R g v w wr i k qs) (ht : ¬ (R.tracks < 2 ∨ R.tracks > 128)) (hl : R.rows.length ≤ 20000) (hi : i < R.rows.length) {l : List Int} (hll : R.rows[i] = l) (hk : k < l.length) {e : Int} (he : numErr R.tracks l k = e) (h0 : e ≠ 0) : rollErr R g = e := by
  subst hll
  exact rollErr_row ht hl hi h.err (rowErr_num (h.errk hi) hk he h0) h0
theorem LdInv.put {R : Ro} {g : Bool} {v : Value} {w wr w' : World} {i k : Nat} {qs : List Rw} (h : LdInv R g v w wr i k qs) (hi : i < R.rows.length) {l : List Int} (hll : R.rows[i] = l) (hk : k < l.length) {x : Int} (hx : l[k] = x) (h0 : 0 ≤ x) (h1 : x < R.tracks) (ht : R.tracks ≤ 128) (hn : numErr R.tracks l k = 0) (hqi : i < qs.length)
    (hr : RwB w' (w.heap.size + 1) R.rows.length (qs.set i (putR qs[i] x.toNat true))) (hg : wr.grownBy w' (some (w.heap.size + 1))) : LdInv R g v w w' i (k + 1) (qs.set i (putR qs[i] x.toNat true)) := by
  subst hll
  have hx2 : ((x.toNat : Nat) : Int) = x := by omega
  have hnow := h.now hqi hi
  refine ⟨by rw [List.length_set]; exact h.len, ⟨?_, hr, h.pap.pb, h.pap.gb, h.pap.c, ?_⟩, h.x.kept' hg (by omega), ?_, ?_, ?_, h.err, ?_, h.b.grown hg h.b.size (fun j e => by cases e; omega)⟩
  · rw [List.length_set]
    exact h.pap.p.kept' hg (by omega)
  · intro q hq
    rcases List.mem_or_eq_of_mem_set hq with hq | rfl
    · exact h.pap.ok q hq
    · exact putR_ok (h.pap.ok _ (List.getElem_mem hqi)) (by omega)
  · intro j hj hr' hlt
    rw [List.getElem_set_ne (by omega)]
    exact h.done j (by simpa using hj) hr' hlt
  · intro hj hr'
    rw [List.getElem_set_self]
    have := holds_put hnow (t := x.toNat) (by omega)
    rw [hx2] at this
    rw [List.take_succ_eq_append_getElem hk, hx]
    exact this
  · intro j hj hlt
    rw [List.getElem_set_ne (by omega)]
    exact h.rest j (by simpa using hj) hlt
  · intro hr'
    rw [firstErr_next (h.errk hr')]
    exact hn
theorem hasB_zero {q : Rw} {l : List Int} (h : Holds q l) : hasB q 0 = decide ((0 : Int) ∈ l) := by
  have := hasB_at (q := q) (t := 0) (by decide)
  rw [h.2 0 (by decide)] at this
  exact this
theorem LdInv.full {R : Ro} {g : Bool} {v : Value} {w wr : World} {i k : Nat} {qs : List Rw} (h : LdInv R g v w wr i k qs) (hi : i < R.rows.length) (hqi : i < qs.length) (hk : k = R.rows[i].length) : Holds qs[i] R.rows[i] := by
  have := h.now hqi hi
  rwa [hk, List.take_length] at this
theorem LdInv.fullErr {R : Ro} {g : Bool} {v : Value} {w wr : World} {i k : Nat} {qs : List Rw} (h : LdInv R g v w wr i k qs) (hi : i < R.rows.length) (hk : k = R.rows[i].length) : firstErr (numErr R.tracks R.rows[i]) R.rows[i].length = 0 := by
  have := h.errk hi
  rwa [hk] at this
theorem LdInv.next {R : Ro} {g : Bool} {v : Value} {w wr : World} {i k : Nat} {qs : List Rw} (h : LdInv R g v w wr i k qs) (hqi : i < qs.length) (hi : i < R.rows.length) (hn : Holds qs[i] R.rows[i]) (he : rowErr R.tracks g R.rows[i] = 0) : LdInv R g v w wr (i + 1) 0 qs where
  len := h.len
  pap := h.pap
  x := h.x
  done j hj hr hlt := by
    by_cases e : j = i
    · subst e; exact hn
    · exact h.done j hj hr (by omega)
  now hj hr := by
    rw [h.rest (i + 1) hj (by omega), List.take_zero]
    exact holds_nil
  rest j hj hlt := h.rest j hj (by omega)
  err j hj hlt := by
    by_cases e : j = i
    · subst e; exact he
    · exact h.err j hj (by omega)
  errk _ := rfl
  b := h.b
theorem LdInv.below {R : Ro} {g : Bool} {v : Value} {w wr w' : World} {i k : Nat} {qs : List Rw} (h : LdInv R g v w wr i k qs) (hb : Below wr.heap.size wr w') : LdInv R g v w w' i k qs :=
  ⟨h.len, h.pap.below hb, h.x.below hb, h.done, h.now, h.rest, h.err, h.errk, h.b.trans (hb.mono h.b.size)⟩
theorem ldEnds_ok {R : Ro} {g : Bool} {v : Value} {w wr : World} {i k : Nat} {qs : List Rw} (ht : ¬ (R.tracks < 2 ∨ R.tracks > 128)) (hl : R.rows.length ≤ 20000) (h : LdInv R g v w wr i k qs) (hi : i = R.rows.length) : LdEnds R g w (.returned (.tuple #[.pointer (some ⟨w.heap.size + 1 + 1, 0, none⟩), .int .i64 0])) wr := by
  subst hi
  exact ⟨h.b, .inr ⟨rollErr_good ht hl fun j hj => h.err j hj hj, _, _, qs, rfl, h.pap.pap, h.len, fun j hj hr => h.done j hj hr hr⟩⟩
theorem ldInv_start (R : Ro) (g : Bool) (av : Option Addr) (cv : Nat) (w : World) (hl : R.rows.length ≤ 20000) : LdInv R g (.slice av R.rows.length cv) w (((w.alloc (.cells #[.int .i64 R.tracks, .slice av R.rows.length cv] 36)).alloc (.cells (madeCells (rwC rw0).toArray (R.rows.length * 2)) 89)).alloc (.cells #[.int .i64 R.tracks, .slice (some ⟨w.heap.size + 1, 0, none⟩) R.rows.length R.rows.length] 86)).drew 0 0 (List.replicate R.rows.length rw0) := by
  have hb1 : Below w.heap.size w (w.alloc (.cells #[.int .i64 R.tracks, .slice av R.rows.length cv] 36)) := (Below.refl _ _).alloc (Nat.le_refl _) _
  have hx : Blk (w.alloc (.cells #[.int .i64 R.tracks, .slice av R.rows.length cv] 36)) w.heap.size 36 #[.int .i64 R.tracks, .slice av R.rows.length cv] := Blk.new w _ _
  have hs1 : (w.alloc (.cells #[.int .i64 R.tracks, .slice av R.rows.length cv] 36)).heap.size = w.heap.size + 1 := by simp
  generalize w.alloc (.cells #[.int .i64 R.tracks, .slice av R.rows.length cv] 36) = w1 at *
  have hr2 := made_enB w1 89 (enc := rwC) rw0 rwC_len (by decide) R.rows.length
  have hb2 : Below w1.heap.size w1 (w1.alloc (.cells (madeCells (rwC rw0).toArray (R.rows.length * 2)) 89)) := (Below.refl _ _).alloc (Nat.le_refl _) _
  have hs2 : (w1.alloc (.cells (madeCells (rwC rw0).toArray (R.rows.length * 2)) 89)).heap.size = w.heap.size + 1 + 1 := by simp [hs1]
  generalize w1.alloc (.cells (madeCells (rwC rw0).toArray (R.rows.length * 2)) 89) = w2 at *
  have hp3 := Blk.new w2 86 #[.int .i64 R.tracks, .slice (some ⟨w.heap.size + 1, 0, none⟩) R.rows.length R.rows.length]
  have hb3 : Below w2.heap.size w2 (w2.alloc (.cells #[.int .i64 R.tracks, .slice (some ⟨w.heap.size + 1, 0, none⟩) R.rows.length R.rows.length] 86)) := (Below.refl _ _).alloc (Nat.le_refl _) _
  generalize w2.alloc (.cells #[.int .i64 R.tracks, .slice (some ⟨w.heap.size + 1, 0, none⟩) R.rows.length R.rows.length] 86) = w3 at *
  rw [hs2] at hp3
  rw [hs1] at hr2
  have hb3' : Below w2.heap.size w2 w3.drew := ⟨hb3.os, hb3.tape, hb3.output, hb3.size, hb3.block⟩
  have hrest : ∀ j (hj : j < (List.replicate R.rows.length rw0).length), (List.replicate R.rows.length rw0)[j] = rw0 := fun j hj => List.getElem_replicate _
  refine ⟨List.length_replicate, ⟨by rw [List.length_replicate]; exact hp3, hr2.below hb3', by omega, by omega, by unfold maxLen; omega, fun q hq => ?_⟩, (hx.below hb2).below hb3', fun j hj hr h => absurd h (Nat.not_lt_zero j), fun hj hr => ?_, fun j hj _ => hrest j hj, fun j hj h => absurd h (Nat.not_lt_zero j), fun hr => rfl, ?_⟩
  · rw [List.eq_of_mem_replicate hq]
    exact ⟨by decide, by decide⟩
  · rw [hrest, List.take_zero]
    exact holds_nil
  · have : Below w.heap.size w w3 := (hb1.trans (hb2.mono (by omega))).trans (hb3.mono (by omega))
    exact ⟨this.os, this.tape, this.output, this.size, this.block⟩
set_option maxRecDepth 100000 in
set_option maxHeartbeats 6400000 in
theorem load_any (R : Ro) (g : Bool) (hok : RoOk R) (v : Value) (f : Nat → Value) (w : World) (hr : RoRd w v f R) :
    Calls Tryz.prog 44 #[.agg #[.int .i64 R.tracks, v], .bool g] w (LdEnds R g w) := by
  obtain ⟨av, cv, rfl⟩ := hr.form
  have HR := Lib.hid hr
  have HO := Lib.hid hok
  clear hr hok
  have hbx : Below w.heap.size w (w.alloc (.cells #[.int .i64 R.tracks, .slice av R.rows.length cv] 36)) := (Below.refl _ _).alloc (Nat.le_refl _) _
  by_cases h1 : R.tracks < 2
  · have HE := Lib.hid (ldEnds_err (g := g) hbx (rollErr_tr (.inl h1)) (by decide))
    clear hbx
    go_enter Tryz.func44, Tryz.ntmps44
    go_wp2
    go_ret2
    exact HE.out
  · by_cases h2 : 128 < R.tracks
    · have HE := Lib.hid (ldEnds_err (g := g) hbx (rollErr_tr (.inr h2)) (by decide))
      have h1' : 2 ≤ R.tracks := by omega
      clear hbx h1
      go_enter Tryz.func44, Tryz.ntmps44
      go_wp2
      go_ret2
      exact HE.out
    · have h1' : 2 ≤ R.tracks := by omega
      have h2' : R.tracks ≤ 128 := by omega
      have HT : RowKit.Hid (¬ (R.tracks < 2 ∨ R.tracks > 128)) := Lib.hid (by omega)
      clear h1 h2
      by_cases h3 : 20000 < R.rows.length
      · have HE := Lib.hid (ldEnds_err (g := g) hbx (rollErr_long HT.out h3) (by decide))
        have h3' : decide ((20000 : Int) < (R.rows.length : Int)) = true := by rw [decide_eq_true_iff]; omega
        clear hbx h3
        go_enter Tryz.func44, Tryz.ntmps44
        go_wp2
        go_ret2
        exact HE.out
      · have h3' : decide ((20000 : Int) < (R.rows.length : Int)) = false := by rw [decide_eq_false_iff_not]; omega
        have HL : RowKit.Hid (R.rows.length ≤ 20000) := Lib.hid (by omega)
        have hmk := make_rows R.rows.length (by omega)
        clear hbx h3
        go_enter Tryz.func44, Tryz.ntmps44
        go_wp2
        go_region
        all_goals go_wp2
        clear hmk
        go_loopw [36] (fun x wr => ∃ (i : Nat) (qs : List Rw), i ≤ R.rows.length ∧ x = .int .i64 i ∧ RowKit.Hid (LdInv R g (.slice av R.rows.length cv) w wr i 0 qs)) (fun x _ => R.rows.length - (intOf x).toNat)
        case atStart => exact ⟨0, List.replicate R.rows.length rw0, by omega, rfl, Lib.hid (ldInv_start R g av cv w HL.out)⟩
        obtain ⟨i, qs, hi, rfl, hI⟩ := hrel
        by_cases hlt : i < R.rows.length
        · obtain ⟨b, o, c, a2, c2, ev, hbl, hc0, hrow⟩ := HR.out.at i hlt
          have hc := (hI.out.b.cell (p := ⟨b, o + i, none⟩) hbl).trans hc0
          clear hc0
          cases ev
          obtain ⟨l, hl⟩ : ∃ l, R.rows[i] = l := ⟨_, rfl⟩
          rw [hl] at hc hrow
          have HLL := Lib.hid hl
          have HROW := Lib.hid hrow
          have hll : l.length ≤ 1000 := HO.out.row HL.out l (by rw [← hl]; exact List.getElem_mem hlt)
          have hi2 : (i : Int) < (R.rows.length : Int) := by omega
          have x0 := hI.out.x.cell 0
          have x1 := hI.out.x.cell 1
          clear hl hrow
          go_wp2
          clear x0 x1 hc
          go_loopw [43] (fun x wi => ∃ (k : Nat) (qs : List Rw), k ≤ l.length ∧ x = .int .i64 k ∧ RowKit.Hid (LdInv R g (.slice (some ⟨b, o, none⟩) R.rows.length cv) w wi i k qs)) (fun x _ => l.length - (intOf x).toNat)
          case atStart => exact ⟨0, qs, by omega, rfl, hI⟩
          clear hI
          obtain ⟨k, qs, hk, rfl, hI⟩ := hrel
          have x0 := hI.out.x.cell 0
          have hB := hI.out.b
          have HB := Lib.hid hB
          have hqi : i < qs.length := by rw [hI.out.len]; exact hlt
          have HQI := Lib.hid hqi
          by_cases hlk : k < l.length
          · have hk2 : (k : Int) < (l.length : Int) := by omega
            obtain ⟨lb, lo, lc, el, hlb, hcl0⟩ := HROW.out.intAt k hlk
            have hcl := (hB.cell (p := ⟨lb, lo + k, none⟩) hlb).trans hcl0
            cases el
            obtain ⟨x, hx⟩ : ∃ x, l[k] = x := ⟨_, rfl⟩
            rw [hx] at hcl
            have HX := Lib.hid hx
            have HLK := Lib.hid hlk
            clear hcl0 hx hB hqi
            by_cases hx0 : x < 0
            · have HE := Lib.hid (ldEnds_err (g := g) HB.out (hI.out.bad HT.out HL.out hlt HLL.out HLK.out (numErr_lo HLK.out (by rw [HX.out]; exact .inl hx0)) (by decide)) (by decide))
              clear hI
              go_wp2
              go_ret2
              exact HE.out
            · have hx1 : 0 ≤ x := by omega
              clear hx0
              by_cases hxt : R.tracks ≤ x
              · have HE := Lib.hid (ldEnds_err (g := g) HB.out (hI.out.bad HT.out HL.out hlt HLL.out HLK.out (numErr_lo HLK.out (by rw [HX.out]; exact .inr hxt)) (by decide)) (by decide))
                clear hI
                go_wp2
                go_ret2
                exact HE.out
              · have hx2 : x < R.tracks := by omega
                have hx3 : decide (R.tracks ≤ x) = false := by rw [decide_eq_false_iff_not]; exact hxt
                have HXT : RowKit.Hid (¬ (l[k]'(HLK.out) < 0 ∨ l[k]'(HLK.out) ≥ R.tracks)) := by rw [HX.out]; exact Lib.hid (by omega)
                clear hxt
                have hP0 := hI.out.pap.p.cell 0
                have hP1 := hI.out.pap.p.cell 1
                have hqi := HQI.out
                rw [hI.out.len] at hP1
                by_cases hk0 : 0 < k
                · obtain ⟨lb', lo', lc', el', hlb', hcl0⟩ := HROW.out.intAt (k - 1) (by omega)
                  have hcl1 := (HB.out.cell (p := ⟨lb', lo' + (k - 1), none⟩) hlb').trans hcl0
                  cases el'
                  have hk1 : (1 : Int) ≤ (k : Int) := by omega
                  have ek : ((k : Int) - 1).toNat = k - 1 := by omega
                  have hk3 : k - 1 < l.length := by omega
                  have hk4 : (k : Int) - 1 < (l.length : Int) := by omega
                  obtain ⟨y, hy⟩ : ∃ y, l[k - 1] = y := ⟨_, rfl⟩
                  rw [hy] at hcl1
                  have HY := Lib.hid hy
                  clear hcl0 hy
                  by_cases hxy : x ≤ y
                  · have HE := Lib.hid (ldEnds_err (g := g) HB.out (hI.out.bad HT.out HL.out hlt HLL.out HLK.out (numErr_twice HLK.out HXT.out hk0 hk3 (by rw [HX.out, HY.out]; exact hxy)) (by decide)) (by decide))
                    clear hI hqi
                    go_wp2
                    go_ret2
                    exact HE.out
                  · have hxy' : decide (x ≤ y) = false := by rw [decide_eq_false_iff_not]; exact hxy
                    have HN := Lib.hid (numErr_good HLK.out HXT.out hk3 (fun _ => by rw [HX.out, HY.out]; omega))
                    clear hxy
                    go_wp2_with (go_at_call 37; refine (put_row hI.out.pap.r hqi (hI.out.pap.ok _ (List.getElem_mem hqi)) x hx1 (by omega) true).mono ?_; rintro e w' ⟨rfl, hr1, hg1, hs1⟩; have HI2 := Lib.hid (hI.out.put hlt HLL.out HLK.out HX.out hx1 hx2 h2' HN.out hqi hr1 hg1); clear hr1 hg1 hs1)
                    go_roundw
                    case rel => exact ⟨k + 1, _, by omega, by go_num, HI2⟩
                    case measure => simp [intOf]; omega
                · have HN := Lib.hid (numErr_good HLK.out HXT.out (show k - 1 < l.length by omega) (fun h => absurd h hk0))
                  go_wp2_with (go_at_call 37; refine (put_row hI.out.pap.r hqi (hI.out.pap.ok _ (List.getElem_mem hqi)) x hx1 (by omega) true).mono ?_; rintro e w' ⟨rfl, hr1, hg1, hs1⟩; have HI2 := Lib.hid (hI.out.put hlt HLL.out HLK.out HX.out hx1 hx2 h2' HN.out hqi hr1 hg1); clear hr1 hg1 hs1)
                  go_roundw
                  case rel => exact ⟨k + 1, _, by omega, by go_num, HI2⟩
                  case measure => simp [intOf]; omega
          · have hke : k = l.length := by omega
            have hk2 : ¬ ((k : Int) < (l.length : Int)) := by omega
            have hke2 : R.rows[i].length = l.length := by rw [HLL.out]
            have HNOW := Lib.hid (hI.out.full hlt hqi (by rw [hke, hke2]))
            have HF := Lib.hid (hI.out.fullErr hlt (by rw [hke, hke2]))
            have HLT := Lib.hid hlt
            have hP0 := hI.out.pap.p.cell 0
            have hP1 := hI.out.pap.p.cell 1
            rw [hI.out.len] at hP1
            obtain ⟨c0, c1⟩ := rwB_cells hI.out.pap.r hqi
            have HRO := Lib.hid (hI.out.pap.ok _ (List.getElem_mem hqi))
            have hlb2 := HL.out
            clear hB hke hke2 hlk
            cases g with
            | false =>
              have HI2 := Lib.hid (hI.out.next hqi HLT.out HNOW.out (rowErr_good HF.out (fun h => by cases h)))
              go_wp2
              go_roundw
              case rel => exact ⟨i + 1, qs, by omega, by go_num, HI2⟩
              case measure => simp [intOf]; omega
            | true =>
              obtain ⟨bb, hbb⟩ : ∃ bb, hasB qs[i] 0 = bb := ⟨_, rfl⟩
              have hbb2 : bb = decide ((0 : Int) ∈ R.rows[i]) := hbb.symm.trans (hasB_zero HNOW.out)
              have HBB := Lib.hid hbb
              clear hbb
              cases bb with
              | false =>
                have h0 : (0 : Int) ∉ R.rows[i] := of_decide_eq_false hbb2.symm
                have HE := Lib.hid (rollErr_row HT.out HL.out HLT.out hI.out.err (rowErr_guide HF.out h0) (by decide))
                clear hbb2 h0 hI
                go_wp2_with (go_at_call 64; refine (has_any qs[i] HRO.out 0 false HBB.out _).mono ?_; rintro e w' ⟨rfl, hb2⟩; have HB2 := Lib.hid (HB.out.trans (hb2.mono HB.out.size)); clear hb2)
                go_ret2
                exact ldEnds_err HB2.out HE.out (by decide)
              | true =>
                have h0 : (0 : Int) ∈ R.rows[i] := of_decide_eq_true hbb2.symm
                have HI2 := Lib.hid (hI.out.next hqi HLT.out HNOW.out (rowErr_good HF.out (fun _ => h0)))
                clear hbb2 h0 hI
                go_wp2_with (go_at_call 64; refine (has_any qs[i] HRO.out 0 true HBB.out _).mono ?_; rintro e w' ⟨rfl, hb2⟩; have HI3 := Lib.hid (HI2.out.below hb2); clear hb2)
                go_roundw
                case rel => exact ⟨i + 1, qs, by omega, by go_num, HI3⟩
                case measure => simp [intOf]; omega
        · have hie : i = R.rows.length := by omega
          have hi2 : ¬ ((i : Int) < (R.rows.length : Int)) := by omega
          have HE := Lib.hid (ldEnds_ok HT.out HL.out hI.out hie)
          clear hie hI
          go_wp2
          go_ret2
          exact HE.out
theorem check_roll (R : Ro) (hok : RoOk R) (v : Value) (f : Nat → Value) (w : World) (hr : RoRd w v f R) :
    Calls Tryz.prog 18 #[.agg #[.int .i64 R.tracks, v]] w fun e w' => e = .returned (.int .i64 (rollErr R true)) ∧ Below w.heap.size w w' := by
  have hb0 : Below w.heap.size w (w.alloc (.cells #[.int .i64 R.tracks, v] 36)) := (Below.refl _ _).alloc (Nat.le_refl _) _
  have HB0 := Lib.hid hb0
  have HR := Lib.hid hr
  have HO := Lib.hid hok
  have HK := Lib.hid (Blk.new w 36 #[.int .i64 R.tracks, v])
  clear hr hok hb0
  go_enter Tryz.func18, Tryz.ntmps18
  go_wp2_with fail
  refine (load_any R true HO.out v f _ (HR.out.later HB0.out)).mono ?_
  rintro e w1 ⟨hb1, ⟨he, rfl⟩ | ⟨he, P, pv, qs, rfl, hp, _⟩⟩
  · have HB := Lib.hid (below_step HB0.out hb1)
    clear hb1 he
    go_wp2
    go_ret
    exact ⟨rfl, HB.out⟩
  · have HB := Lib.hid (below_step HB0.out hb1)
    have HE := Lib.hid he
    clear hb1 he hp
    go_wp2
    go_ret
    exact ⟨by rw [HE.out]; rfl, HB.out⟩
end Go.Proofs.YtppccacfdpkkgaaGreatDoor
