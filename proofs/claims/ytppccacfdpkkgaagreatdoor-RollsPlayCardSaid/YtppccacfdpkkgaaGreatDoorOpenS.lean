/-
  AN ARGUMENT THAT IS A SPECIFICATION: opened to its cells.
-/
import Derived.Test.YtppccacfdpkkgaaGreatDoorArr
import Derived.Deep.Slices
import Derived.Deep.Fields
import Derived.ChangeSame
import Derived.ChangeArms
import Derived.OpenShut
import Derived.Lib.SmallJoins
namespace Go.Proofs.YtppccacfdpkkgaaGreatDoor
open Go.ChangeShapes Go.WideShapes Go.RowKit Go.Deep
theorem spot_none {w : World} {a : Addr} {v : Value} (h : w.cell? a = some v) : a = ⟨a.block, a.off, none⟩ := by
  obtain ⟨b, o, s⟩ := a
  cases s with
  | none => rfl
  | some x =>
    unfold World.cell? at h
    split at h
    · simp at h
    · cases h
theorem add_at (b o n : Nat) : (⟨b, o, none⟩ : Addr).add n = ⟨b, o + n, none⟩ := by
  unfold Addr.add
  split
  · next h => subst h; rfl
  · rfl
theorem wf_i64 {a : Int} (h : (Lit.int .i64 a).wf = true) : i64 a := by
  have h2 : IntKind.i64.min ≤ a ∧ a ≤ IntKind.i64.max := by simpa only [Lit.wf, Bool.and_eq_true, decide_eq_true_eq] using h
  have e1 : IntKind.i64.min = -9223372036854775808 := rfl
  have e2 : IntKind.i64.max = 9223372036854775807 := rfl
  unfold i64
  omega
section
variable {H : Type} {enc : TypeId × Value → H} {P : Program} {w : World} {base : Nat} {spare : Nat → Bool} {held : Bool}
/-- A field of a struct that reads. -/
theorem fld {t : TypeId} {fs : Array Field} {n : Nat} {cs : List Value} {y : DataW H × List MemPlace} (ht : P.underlying t = some (.struct fs)) (h : DataW.trod enc P w base spare held n t cs = some y) (i : Nat) (f : Field) (hf : fs[i]? = some f) :
    ∃ (m : Nat) (z : DataW H × List MemPlace), DataW.trod enc P w base spare held m f.type ((cs.drop f.offset).take (P.cellsOf f.type)) = some z := by
  obtain ⟨xs, m, _, _, _, hl, hx⟩ := DataW.trod_struct ht h
  have hi := (Array.getElem?_eq_some_iff.1 hf).1
  exact ⟨m, _, (hx i f hf).trans (List.getElem?_eq_getElem (by omega))⟩
theorem fld_int {t : TypeId} {fs : Array Field} {n : Nat} {cs : List Value} {y : DataW H × List MemPlace} (ht : P.underlying t = some (.struct fs)) (h : DataW.trod enc P w base spare held n t cs = some y) (i : Nat) (f : Field) (hf : fs[i]? = some f)
    (hu : P.underlying f.type = some (.int .i64)) : ∃ z : Int, cs[f.offset]? = some (.int .i64 z) ∧ i64 z := by
  obtain ⟨m, z, hz⟩ := fld ht h i f hf
  obtain ⟨k, hk, _, hw⟩ := DataW.trod_int hu hz
  refine ⟨k, ?_, wf_i64 hw⟩
  have h0 : ((cs.drop f.offset).take (P.cellsOf f.type))[0]? = some (.int .i64 k) := by rw [hk]; rfl
  rw [List.getElem?_take] at h0
  split at h0
  · rw [List.getElem?_drop, Nat.add_zero] at h0; exact h0
  · cases h0
theorem fld_string {t : TypeId} {fs : Array Field} {n : Nat} {cs : List Value} {y : DataW H × List MemPlace} (ht : P.underlying t = some (.struct fs)) (h : DataW.trod enc P w base spare held n t cs = some y) (i : Nat) (f : Field) (hf : fs[i]? = some f)
    (hu : P.underlying f.type = some .string) : ∃ z : ByteArray, cs[f.offset]? = some (.string z) := by
  obtain ⟨m, z, hz⟩ := fld ht h i f hf
  obtain ⟨k, hk, _, hw⟩ := DataW.trod_string hu hz
  refine ⟨k, ?_⟩
  have h0 : ((cs.drop f.offset).take (P.cellsOf f.type))[0]? = some (.string k) := by rw [hk]; rfl
  rw [List.getElem?_take] at h0
  split at h0
  · rw [List.getElem?_drop, Nat.add_zero] at h0; exact h0
  · cases h0
theorem fld_bool {t : TypeId} {fs : Array Field} {n : Nat} {cs : List Value} {y : DataW H × List MemPlace} (ht : P.underlying t = some (.struct fs)) (h : DataW.trod enc P w base spare held n t cs = some y) (i : Nat) (f : Field) (hf : fs[i]? = some f)
    (hu : P.underlying f.type = some .bool) : ∃ z : Bool, cs[f.offset]? = some (.bool z) := by
  obtain ⟨m, z, hz⟩ := fld ht h i f hf
  obtain ⟨k, hk, _⟩ := DataW.trod_bool hu hz
  refine ⟨k, ?_⟩
  have h0 : ((cs.drop f.offset).take (P.cellsOf f.type))[0]? = some (.bool k) := by rw [hk]; rfl
  rw [List.getElem?_take] at h0
  split at h0
  · rw [List.getElem?_drop, Nat.add_zero] at h0; exact h0
  · cases h0
/-- A field that is a struct of two numbers. -/
theorem fld_two {t : TypeId} {fs gs : Array Field} {n : Nat} {cs : List Value} {y : DataW H × List MemPlace} (ht : P.underlying t = some (.struct fs)) (h : DataW.trod enc P w base spare held n t cs = some y) (i : Nat) (f f0 f1 : Field) (hf : fs[i]? = some f)
    (hu : P.underlying f.type = some (.struct gs)) (h0 : gs[0]? = some f0) (h1 : gs[1]? = some f1) (u0 : P.underlying f0.type = some (.int .i64)) (u1 : P.underlying f1.type = some (.int .i64)) :
    ∃ a b : Int, cs[f.offset + f0.offset]? = some (.int .i64 a) ∧ cs[f.offset + f1.offset]? = some (.int .i64 b) ∧ i64 a ∧ i64 b := by
  obtain ⟨m, z, hz⟩ := fld ht h i f hf
  obtain ⟨a, ha, wa⟩ := fld_int hu hz 0 f0 h0 u0
  obtain ⟨b, hb, wb⟩ := fld_int hu hz 1 f1 h1 u1
  refine ⟨a, b, ?_, ?_, wa, wb⟩
  · rw [List.getElem?_take] at ha
    split at ha
    · rw [List.getElem?_drop] at ha; exact ha
    · cases ha
  · rw [List.getElem?_take] at hb
    split at hb
    · rw [List.getElem?_drop] at hb; exact hb
    · cases hb
theorem len_struct {t : TypeId} {fs : Array Field} {n : Nat} {cs : List Value} {y : DataW H × List MemPlace} (ht : P.underlying t = some (.struct fs)) (h : DataW.trod enc P w base spare held n t cs = some y) : cs.length = P.cellsOf t := by
  obtain ⟨xs, m, _, _, hl, _⟩ := DataW.trod_struct ht h
  exact hl
/-- A slice whose elements read. -/
theorem slice_rows {α : Type} {t e : TypeId} {fuel k : Nat} {cs : List Value} {x : DataW H × List MemPlace} (cells : α → List Value) (Good : α → Prop) (ht : P.underlying t = some (.slice e)) (hC : P.cellsOf e = k) (hk : 0 < k)
    (each : ∀ n cs' y, DataW.trod enc P w base spare held n e cs' = some y → ∃ r : α, cs' = cells r ∧ Good r) (h : DataW.trod enc P w base spare held fuel t cs = some x) :
    ∃ (v : Value) (rows : List α), cs = [v] ∧ ARd w v k (rows.map cells) ∧ ∀ r ∈ rows, Good r := by
  rcases open_slice ht h with ⟨hc, _⟩ | ⟨a, len, cap, m, n, D, Pl, hc, _, hlc, _, hm, _, hi⟩
  · exact ⟨_, [], hc, ⟨none, 0, rfl, fun i h => absurd h (Nat.not_lt_zero i)⟩, fun r h => by cases h⟩
  · rw [hC] at hi
    have hml : len ≤ m := by rw [hm]; split <;> omega
    have pick : ∀ i : Fin len, ∃ r : α, w.cells? base (a.add (i.val * k)) k = some (cells r) ∧ Good r := fun i => by
      obtain ⟨cs', h1, h2⟩ := hi i.val (by omega)
      obtain ⟨r, hr, hg⟩ := each _ _ _ h2
      exact ⟨r, by rw [h1, hr], hg⟩
    obtain ⟨rows, hlen, hrow⟩ : ∃ rows : List α, rows.length = len ∧ ∀ i (h : i < rows.length), w.cells? base (a.add (i * k)) k = some (cells rows[i]) ∧ Good rows[i] := by
      refine ⟨List.ofFn fun i : Fin len => Classical.choose (pick i), by simp, fun i h => ?_⟩
      have hil : i < len := by simpa using h
      simp only [List.getElem_ofFn]
      exact Classical.choose_spec (pick ⟨i, hil⟩)
    refine ⟨_, rows, hc, ⟨some a, cap, by simp [hlen], fun i hi' => ?_⟩, fun r hr => ?_⟩
    · have hil : i < rows.length := by simpa using hi'
      obtain ⟨_, hl, hcell⟩ := World.cells?_some (hrow i hil).1
      obtain ⟨_, hl0, hcell0⟩ := World.cells?_some (hrow 0 (by omega)).1
      have h1 := hcell0 0 hk
      rw [Nat.zero_mul] at h1
      obtain ⟨u0, hu0⟩ : ∃ u, (cells rows[0])[0]? = some u := ⟨_, List.getElem?_eq_getElem (show 0 < (cells rows[0]).length by omega)⟩
      rw [hu0] at h1
      have h1 : w.cell? a = some u0 := h1
      have hs := spot_none h1
      refine ⟨a.block, a.off, by rw [← hs], cell_size h1, fun j u hj => ?_⟩
      rw [List.getElem_map] at hj
      have hjk : j < k := by
        have := (List.getElem?_eq_some_iff.1 hj).1
        omega
      have h2 := hcell j hjk
      rw [hs, add_at, add_at] at h2
      rw [h2]
      exact hj
    · obtain ⟨i, hi', rfl⟩ := List.mem_iff_getElem.1 hr
      exact (hrow i hi').2
end
theorem list3 {cs : List Value} {a b c : Value} (hl : cs.length = 3) (h0 : cs[0]? = some a) (h1 : cs[1]? = some b) (h2 : cs[2]? = some c) : cs = [a, b, c] := by
  match cs, hl with
  | [_, _, _], _ => simp at h0 h1 h2; rw [h0, h1, h2]
theorem list4 {cs : List Value} {a b c d : Value} (hl : cs.length = 4) (h0 : cs[0]? = some a) (h1 : cs[1]? = some b) (h2 : cs[2]? = some c) (h3 : cs[3]? = some d) : cs = [a, b, c, d] := by
  match cs, hl with
  | [_, _, _, _], _ => simp at h0 h1 h2 h3; rw [h0, h1, h2, h3]
theorem list5 {cs : List Value} {a b c d e : Value} (hl : cs.length = 5) (h0 : cs[0]? = some a) (h1 : cs[1]? = some b) (h2 : cs[2]? = some c) (h3 : cs[3]? = some d) (h4 : cs[4]? = some e) : cs = [a, b, c, d, e] := by
  match cs, hl with
  | [_, _, _, _, _], _ => simp at h0 h1 h2 h3 h4; rw [h0, h1, h2, h3, h4]
theorem list6 {cs : List Value} {a b c d e f : Value} (hl : cs.length = 6) (h0 : cs[0]? = some a) (h1 : cs[1]? = some b) (h2 : cs[2]? = some c) (h3 : cs[3]? = some d) (h4 : cs[4]? = some e) (h5 : cs[5]? = some f) : cs = [a, b, c, d, e, f] := by
  match cs, hl with
  | [_, _, _, _, _, _], _ => simp at h0 h1 h2 h3 h4 h5; rw [h0, h1, h2, h3, h4, h5]
section
variable {H : Type} {enc : TypeId × Value → H} {W : World} {base : Nat} {spare : Nat → Bool} {held : Bool}
theorem cO_dv : Tryz.prog.cellsOf 120 = 3 := by kernel_rfl
theorem cO_rk : Tryz.prog.cellsOf 124 = 6 := by kernel_rfl
theorem cO_st : Tryz.prog.cellsOf 127 = 5 := by kernel_rfl
theorem cO_pt : Tryz.prog.cellsOf 131 = 4 := by kernel_rfl
theorem cO_cp : Tryz.prog.cellsOf 129 = 6 := by kernel_rfl
theorem dv_open (n : Nat) (cs : List Value) (y : DataW H × List MemPlace) (h : DataW.trod enc Tryz.prog W base spare held n 120 cs = some y) : ∃ d : Dv, cs = dvC d ∧ i64 d.lo ∧ i64 d.hi := by
  have hl := (len_struct Tryz.underlying120 h).trans cO_dv
  obtain ⟨a, ha⟩ := fld_string Tryz.underlying120 h 0 _ rfl Tryz.underlying9
  obtain ⟨b, hb, wb⟩ := fld_int Tryz.underlying120 h 1 _ rfl Tryz.underlying3
  obtain ⟨c, hc, wc⟩ := fld_int Tryz.underlying120 h 2 _ rfl Tryz.underlying3
  exact ⟨⟨a, b, c⟩, list3 hl ha hb hc, wb, wc⟩
theorem pt_open (n : Nat) (cs : List Value) (y : DataW H × List MemPlace) (h : DataW.trod enc Tryz.prog W base spare held n 131 cs = some y) : ∃ p : Pt, cs = ptC p ∧ i64 p.rank ∧ i64 p.shift ∧ i64 p.lo ∧ i64 p.hi := by
  have hl := (len_struct Tryz.underlying131 h).trans cO_pt
  obtain ⟨a, ha, wa⟩ := fld_int Tryz.underlying131 h 0 _ rfl Tryz.underlying3
  obtain ⟨b, hb, wb⟩ := fld_int Tryz.underlying131 h 1 _ rfl Tryz.underlying3
  obtain ⟨c, hc, wc⟩ := fld_int Tryz.underlying131 h 2 _ rfl Tryz.underlying3
  obtain ⟨d, hd, wd⟩ := fld_int Tryz.underlying131 h 3 _ rfl Tryz.underlying3
  exact ⟨⟨a, b, c, d⟩, list4 hl ha hb hc hd, wa, wb, wc, wd⟩
theorem rk_open (n : Nat) (cs : List Value) (y : DataW H × List MemPlace) (h : DataW.trod enc Tryz.prog W base spare held n 124 cs = some y) : ∃ r : Rk, cs = rkC r ∧ i64 r.kind ∧ i64 r.num ∧ i64 r.den ∧ i64 r.low ∧ i64 r.cnt := by
  have hl := (len_struct Tryz.underlying124 h).trans cO_rk
  obtain ⟨a, ha⟩ := fld_string Tryz.underlying124 h 0 _ rfl Tryz.underlying9
  obtain ⟨b, hb, wb⟩ := fld_int Tryz.underlying124 h 1 _ rfl Tryz.underlying3
  obtain ⟨c, d, hc, hd, wc, wd⟩ := fld_two Tryz.underlying124 h 2 _ _ _ rfl Tryz.underlying122 rfl rfl Tryz.underlying3 Tryz.underlying3
  obtain ⟨e, he, we⟩ := fld_int Tryz.underlying124 h 3 _ rfl Tryz.underlying3
  obtain ⟨f, hf, wf⟩ := fld_int Tryz.underlying124 h 4 _ rfl Tryz.underlying3
  exact ⟨⟨a, b, c, d, e, f⟩, list6 hl ha hb hc hd he hf, wb, wc, wd, we, wf⟩
theorem cp_open (n : Nat) (cs : List Value) (y : DataW H × List MemPlace) (h : DataW.trod enc Tryz.prog W base spare held n 129 cs = some y) : ∃ r : Cp, cs = cpC r ∧ i64 r.frm ∧ i64 r.to ∧ i64 r.shift ∧ i64 r.only := by
  have hl := (len_struct Tryz.underlying129 h).trans cO_cp
  obtain ⟨a, ha⟩ := fld_string Tryz.underlying129 h 0 _ rfl Tryz.underlying9
  obtain ⟨b, hb, wb⟩ := fld_int Tryz.underlying129 h 1 _ rfl Tryz.underlying3
  obtain ⟨c, hc, wc⟩ := fld_int Tryz.underlying129 h 2 _ rfl Tryz.underlying3
  obtain ⟨d, hd, wd⟩ := fld_int Tryz.underlying129 h 3 _ rfl Tryz.underlying3
  obtain ⟨e, he, we⟩ := fld_int Tryz.underlying129 h 4 _ rfl Tryz.underlying3
  obtain ⟨f, hf⟩ := fld_bool Tryz.underlying129 h 5 _ rfl Tryz.underlying4
  exact ⟨⟨a, b, c, d, e, f⟩, list6 hl ha hb hc hd he hf, wb, wc, wd, we⟩
theorem st_open (n : Nat) (cs : List Value) (y : DataW H × List MemPlace) (h : DataW.trod enc Tryz.prog W base spare held n 127 cs = some y) :
    ∃ r : St × Value, cs = stC r.1 r.2 ∧ i64 r.1.div ∧ i64 r.1.num ∧ i64 r.1.den ∧ ARd W r.2 4 (r.1.parts.map ptC) ∧ ∀ p ∈ r.1.parts, i64 p.rank ∧ i64 p.shift ∧ i64 p.lo ∧ i64 p.hi := by
  have hl := (len_struct Tryz.underlying127 h).trans cO_st
  obtain ⟨a, ha⟩ := fld_string Tryz.underlying127 h 0 _ rfl Tryz.underlying9
  obtain ⟨b, hb, wb⟩ := fld_int Tryz.underlying127 h 1 _ rfl Tryz.underlying3
  obtain ⟨c, d, hc, hd, wc, wd⟩ := fld_two Tryz.underlying127 h 2 _ _ _ rfl Tryz.underlying122 rfl rfl Tryz.underlying3 Tryz.underlying3
  obtain ⟨m, z, hz⟩ := fld Tryz.underlying127 h 3 _ rfl
  obtain ⟨v, ps, hv, hps, hg⟩ := slice_rows ptC (fun p => i64 p.rank ∧ i64 p.shift ∧ i64 p.lo ∧ i64 p.hi) Tryz.underlying125 cO_pt (by omega) pt_open hz
  have h4 : cs[4]? = some v := by
    have h0 := congrArg (fun l => l[0]?) hv
    simp only [List.getElem?_take] at h0
    split at h0
    · rw [List.getElem?_drop] at h0; exact h0
    · cases h0
  exact ⟨(⟨a, b, c, d, ps⟩, v), list5 hl ha hb hc hd h4, wb, wc, wd, hps, hg⟩
set_option maxRecDepth 100000 in
theorem spec_open {b0 : Nat} {r : Reach} {v : Value} {d : DataW H} {p : List MemPlace} (hv : Value.okWide Tryz.prog W r b0 27 v) (h : DataW.Trod enc Tryz.prog W base spare held 27 v d p) :
    ∃ (v1 v2 v3 v4 : Value) (S : Sp) (f : Nat → Value), v = .agg #[v1, v2, v3, v4] ∧ SpRd W v1 v2 v3 v4 f S ∧ SpInt S := by
  obtain ⟨v1, v2, v3, v4, y1, y2, y3, y4, n, rfl, _, _, e1, e2, e3, e4⟩ := Go.Joins.open_agg4 Tryz.underlying27 (by kernel_rfl) (by kernel_rfl) hv h
  obtain ⟨u1, ds, h1, r1, g1⟩ := slice_rows dvC (fun d => i64 d.lo ∧ i64 d.hi) Tryz.underlying22 cO_dv (by omega) dv_open e1
  obtain ⟨u2, rs, h2, r2, g2⟩ := slice_rows rkC (fun r => i64 r.kind ∧ i64 r.num ∧ i64 r.den ∧ i64 r.low ∧ i64 r.cnt) Tryz.underlying23 cO_rk (by omega) rk_open e2
  obtain ⟨u3, ss, h3, r3, g3⟩ := slice_rows (fun r : St × Value => stC r.1 r.2) (fun r => i64 r.1.div ∧ i64 r.1.num ∧ i64 r.1.den ∧ ARd W r.2 4 (r.1.parts.map ptC) ∧ ∀ p ∈ r.1.parts, i64 p.rank ∧ i64 p.shift ∧ i64 p.lo ∧ i64 p.hi) Tryz.underlying24 cO_st (by omega) st_open e3
  obtain ⟨u4, cps, h4, r4, g4⟩ := slice_rows cpC (fun r => i64 r.frm ∧ i64 r.to ∧ i64 r.shift ∧ i64 r.only) Tryz.underlying25 cO_cp (by omega) cp_open e4
  obtain rfl : v1 = u1 := by simpa using h1
  obtain rfl : v2 = u2 := by simpa using h2
  obtain rfl : v3 = u3 := by simpa using h3
  obtain rfl : v4 = u4 := by simpa using h4
  refine ⟨v1, v2, v3, v4, ⟨ds, rs, ss.map (fun r => r.1), cps⟩, fun i => (ss.map (fun r => r.2)).getD i (.int .i64 0), rfl, ⟨r1, r2, ?_, r4, ?_⟩, ?_⟩
  · have e : ((ss.map (fun r : St × Value => r.1)).mapIdx fun i x => stC x ((ss.map (fun r : St × Value => r.2)).getD i (.int .i64 0))) = ss.map fun r => stC r.1 r.2 := by
      apply List.ext_getElem
      · simp
      · intro i h1 h2
        have hi : i < ss.length := by simpa using h2
        simp [hi]
    show ARd W v3 5 ((ss.map (fun r : St × Value => r.1)).mapIdx _)
    rw [e]
    exact r3
  · intro i hi
    have hi' : i < ss.length := by simpa using hi
    have hg := (g3 ss[i] (List.getElem_mem hi')).2.2.2.1
    have e1 : ((ss.map (fun r : St × Value => r.2)).getD i (.int .i64 0)) = ss[i].2 := by simp [hi']
    have e2 : (ss.map (fun r : St × Value => r.1))[i]'hi = ss[i].1 := by simp
    show ARd W ((ss.map (fun r : St × Value => r.2)).getD i (.int .i64 0)) 4 (((ss.map (fun r : St × Value => r.1))[i]'hi).parts.map ptC)
    rw [e1, e2]
    exact hg
  · refine ⟨g1, g2, fun x hx => ?_, fun x hx p hp => ?_, g4⟩
    · obtain ⟨r, hr, rfl⟩ := List.mem_map.1 hx
      exact ⟨(g3 r hr).1, (g3 r hr).2.1, (g3 r hr).2.2.1⟩
    · obtain ⟨r, hr, rfl⟩ := List.mem_map.1 hx
      exact (g3 r hr).2.2.2.2 p hp
end
end Go.Proofs.YtppccacfdpkkgaaGreatDoor
