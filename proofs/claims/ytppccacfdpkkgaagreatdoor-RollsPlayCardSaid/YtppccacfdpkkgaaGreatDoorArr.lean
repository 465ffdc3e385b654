/-
  SLICES OF STRUCTS THAT CAN BE READ; a specification in memory.
-/
import Derived.Test.YtppccacfdpkkgaaGreatDoorSpP
import Derived.Test.YtppccacfdpkkgaaGreatDoorBase
namespace Go.Proofs.YtppccacfdpkkgaaGreatDoor
open Go.RowKit
/-- A slice of rows of k cells each. -/
def ARd (w : World) (v : Value) (k : Nat) (rows : List (List Value)) : Prop := ∃ a c, v = .slice a rows.length c ∧
  ∀ i (h : i < rows.length), ∃ b o, a = some ⟨b, o, none⟩ ∧ b < w.heap.size ∧ ∀ j u, rows[i][j]? = some u → w.cell? ⟨b, o + i * k + j, none⟩ = some u
theorem ARd.later {w w' : World} {v : Value} {k : Nat} {rows : List (List Value)} (h : ARd w v k rows) (hb : Below w.heap.size w w') : ARd w' v k rows := by
  obtain ⟨a, c, rfl, hr⟩ := h
  refine ⟨a, c, rfl, fun i hi => ?_⟩
  obtain ⟨b, o, ha, hlt, hc⟩ := hr i hi
  exact ⟨b, o, ha, Nat.lt_of_lt_of_le hlt hb.size, fun j u hj => (hb.cell hlt).trans (hc j u hj)⟩
def dvC (d : Dv) : List Value := [.string d.name, .int .i64 d.lo, .int .i64 d.hi]
def rkC (r : Rk) : List Value := [.string r.name, .int .i64 r.kind, .int .i64 r.num, .int .i64 r.den, .int .i64 r.low, .int .i64 r.cnt]
def ptC (p : Pt) : List Value := [.int .i64 p.rank, .int .i64 p.shift, .int .i64 p.lo, .int .i64 p.hi]
def stC (x : St) (v : Value) : List Value := [.string x.name, .int .i64 x.div, .int .i64 x.num, .int .i64 x.den, v]
def cpC (c : Cp) : List Value := [.string c.name, .int .i64 c.frm, .int .i64 c.to, .int .i64 c.shift, .int .i64 c.only, .bool c.thr]
/-- Bounds that make the walks' integers fit: names and lists. -/
structure SpOk (S : Sp) : Prop where
  d : S.ds.length ≤ 1000
  r : S.rs.length ≤ 1000
  s : S.ss.length ≤ 1000
  c : S.cs.length ≤ 1000
  dn : ∀ x ∈ S.ds, x.name.size ≤ 1000
  rn : ∀ x ∈ S.rs, x.name.size ≤ 1000
  sn : ∀ x ∈ S.ss, x.name.size ≤ 1000
  cn : ∀ x ∈ S.cs, x.name.size ≤ 1000
  sp : ∀ x ∈ S.ss, x.parts.length ≤ 1000
/-- Every number of a specification is one of 64 bits. -/
def i64 (n : Int) : Prop := -9223372036854775808 ≤ n ∧ n ≤ 9223372036854775807
structure SpInt (S : Sp) : Prop where
  d : ∀ x ∈ S.ds, i64 x.lo ∧ i64 x.hi
  r : ∀ x ∈ S.rs, i64 x.kind ∧ i64 x.num ∧ i64 x.den ∧ i64 x.low ∧ i64 x.cnt
  s : ∀ x ∈ S.ss, i64 x.div ∧ i64 x.num ∧ i64 x.den
  p : ∀ x ∈ S.ss, ∀ p ∈ x.parts, i64 p.rank ∧ i64 p.shift ∧ i64 p.lo ∧ i64 p.hi
  c : ∀ x ∈ S.cs, i64 x.frm ∧ i64 x.to ∧ i64 x.shift ∧ i64 x.only
/-- A specification's four slices in memory; f: where a stop's parts lie. -/
structure SpRd (w : World) (v1 v2 v3 v4 : Value) (f : Nat → Value) (S : Sp) : Prop where
  d : ARd w v1 3 (S.ds.map dvC)
  r : ARd w v2 6 (S.rs.map rkC)
  s : ARd w v3 5 (S.ss.mapIdx fun i x => stC x (f i))
  c : ARd w v4 6 (S.cs.map cpC)
  p : ∀ i (h : i < S.ss.length), ARd w (f i) 4 (S.ss[i].parts.map ptC)
theorem SpRd.later {w w' : World} {v1 v2 v3 v4 : Value} {f : Nat → Value} {S : Sp} (h : SpRd w v1 v2 v3 v4 f S) (hb : Below w.heap.size w w') : SpRd w' v1 v2 v3 v4 f S :=
  ⟨h.d.later hb, h.r.later hb, h.s.later hb, h.c.later hb, fun i hi => (h.p i hi).later hb⟩
/-- The cells of a row, one by one. -/
theorem ARd.at {w : World} {v : Value} {k : Nat} {rows : List (List Value)} (h : ARd w v k rows) (i : Nat) (hi : i < rows.length) : ∃ b o c, v = .slice (some ⟨b, o, none⟩) rows.length c ∧ b < w.heap.size ∧
    ∀ j u, rows[i][j]? = some u → w.cell? ⟨b, o + i * k + j, none⟩ = some u := by
  obtain ⟨a, c, rfl, hr⟩ := h
  obtain ⟨b, o, rfl, hlt, hc⟩ := hr i hi
  exact ⟨b, o, c, rfl, hlt, hc⟩
theorem SpRd.dAt {w : World} {v1 v2 v3 v4 : Value} {f : Nat → Value} {S : Sp} (h : SpRd w v1 v2 v3 v4 f S) (i : Nat) (hi : i < S.ds.length) : ∃ b o c, v1 = .slice (some ⟨b, o, none⟩) S.ds.length c ∧ b < w.heap.size ∧
    w.cell? ⟨b, o + i * 3, none⟩ = some (.string S.ds[i].name) ∧ w.cell? ⟨b, o + i * 3 + 1, none⟩ = some (.int .i64 S.ds[i].lo) ∧ w.cell? ⟨b, o + i * 3 + 2, none⟩ = some (.int .i64 S.ds[i].hi) := by
  obtain ⟨b, o, c, e, hlt, hc⟩ := h.d.at i (by simpa using hi)
  rw [List.getElem_map] at hc
  exact ⟨b, o, c, by simpa using e, hlt, hc 0 _ rfl, hc 1 _ rfl, hc 2 _ rfl⟩
theorem SpRd.rAt {w : World} {v1 v2 v3 v4 : Value} {f : Nat → Value} {S : Sp} (h : SpRd w v1 v2 v3 v4 f S) (i : Nat) (hi : i < S.rs.length) : ∃ b o c, v2 = .slice (some ⟨b, o, none⟩) S.rs.length c ∧ b < w.heap.size ∧
    w.cell? ⟨b, o + i * 6, none⟩ = some (.string S.rs[i].name) ∧ w.cell? ⟨b, o + i * 6 + 1, none⟩ = some (.int .i64 S.rs[i].kind) ∧ w.cell? ⟨b, o + i * 6 + 2, none⟩ = some (.int .i64 S.rs[i].num) ∧ w.cell? ⟨b, o + i * 6 + 3, none⟩ = some (.int .i64 S.rs[i].den) ∧ w.cell? ⟨b, o + i * 6 + 4, none⟩ = some (.int .i64 S.rs[i].low) ∧ w.cell? ⟨b, o + i * 6 + 5, none⟩ = some (.int .i64 S.rs[i].cnt) := by
  obtain ⟨b, o, c, e, hlt, hc⟩ := h.r.at i (by simpa using hi)
  rw [List.getElem_map] at hc
  exact ⟨b, o, c, by simpa using e, hlt, hc 0 _ rfl, hc 1 _ rfl, hc 2 _ rfl, hc 3 _ rfl, hc 4 _ rfl, hc 5 _ rfl⟩
theorem SpRd.sAt {w : World} {v1 v2 v3 v4 : Value} {f : Nat → Value} {S : Sp} (h : SpRd w v1 v2 v3 v4 f S) (i : Nat) (hi : i < S.ss.length) : ∃ b o c, v3 = .slice (some ⟨b, o, none⟩) S.ss.length c ∧ b < w.heap.size ∧
    w.cell? ⟨b, o + i * 5, none⟩ = some (.string S.ss[i].name) ∧ w.cell? ⟨b, o + i * 5 + 1, none⟩ = some (.int .i64 S.ss[i].div) ∧ w.cell? ⟨b, o + i * 5 + 2, none⟩ = some (.int .i64 S.ss[i].num) ∧ w.cell? ⟨b, o + i * 5 + 3, none⟩ = some (.int .i64 S.ss[i].den) ∧ w.cell? ⟨b, o + i * 5 + 4, none⟩ = some (f i) := by
  obtain ⟨b, o, c, e, hlt, hc⟩ := h.s.at i (by simpa using hi)
  rw [List.getElem_mapIdx] at hc
  exact ⟨b, o, c, by simpa using e, hlt, hc 0 _ rfl, hc 1 _ rfl, hc 2 _ rfl, hc 3 _ rfl, hc 4 _ rfl⟩
theorem SpRd.cAt {w : World} {v1 v2 v3 v4 : Value} {f : Nat → Value} {S : Sp} (h : SpRd w v1 v2 v3 v4 f S) (i : Nat) (hi : i < S.cs.length) : ∃ b o c, v4 = .slice (some ⟨b, o, none⟩) S.cs.length c ∧ b < w.heap.size ∧
    w.cell? ⟨b, o + i * 6, none⟩ = some (.string S.cs[i].name) ∧ w.cell? ⟨b, o + i * 6 + 1, none⟩ = some (.int .i64 S.cs[i].frm) ∧ w.cell? ⟨b, o + i * 6 + 2, none⟩ = some (.int .i64 S.cs[i].to) ∧ w.cell? ⟨b, o + i * 6 + 3, none⟩ = some (.int .i64 S.cs[i].shift) ∧ w.cell? ⟨b, o + i * 6 + 4, none⟩ = some (.int .i64 S.cs[i].only) ∧ w.cell? ⟨b, o + i * 6 + 5, none⟩ = some (.bool S.cs[i].thr) := by
  obtain ⟨b, o, c, e, hlt, hc⟩ := h.c.at i (by simpa using hi)
  rw [List.getElem_map] at hc
  exact ⟨b, o, c, by simpa using e, hlt, hc 0 _ rfl, hc 1 _ rfl, hc 2 _ rfl, hc 3 _ rfl, hc 4 _ rfl, hc 5 _ rfl⟩
theorem SpRd.pAt {w : World} {v1 v2 v3 v4 : Value} {f : Nat → Value} {S : Sp} (h : SpRd w v1 v2 v3 v4 f S) (i : Nat) (hi : i < S.ss.length) (k : Nat) (hk : k < S.ss[i].parts.length) : ∃ b o c, f i = .slice (some ⟨b, o, none⟩) S.ss[i].parts.length c ∧ b < w.heap.size ∧
    w.cell? ⟨b, o + k * 4, none⟩ = some (.int .i64 S.ss[i].parts[k].rank) ∧ w.cell? ⟨b, o + k * 4 + 1, none⟩ = some (.int .i64 S.ss[i].parts[k].shift) ∧ w.cell? ⟨b, o + k * 4 + 2, none⟩ = some (.int .i64 S.ss[i].parts[k].lo) ∧ w.cell? ⟨b, o + k * 4 + 3, none⟩ = some (.int .i64 S.ss[i].parts[k].hi) := by
  obtain ⟨b, o, c, e, hlt, hc⟩ := (h.p i hi).at k (by simpa using hk)
  rw [List.getElem_map] at hc
  exact ⟨b, o, c, by simpa using e, hlt, hc 0 _ rfl, hc 1 _ rfl, hc 2 _ rfl, hc 3 _ rfl⟩
theorem ARd.form {w : World} {v : Value} {k : Nat} {rows : List (List Value)} (h : ARd w v k rows) : ∃ a c, v = .slice a rows.length c := by
  obtain ⟨a, c, e, _⟩ := h
  exact ⟨a, c, e⟩
/-- The four slices' shapes. -/
theorem SpRd.forms {w : World} {v1 v2 v3 v4 : Value} {f : Nat → Value} {S : Sp} (h : SpRd w v1 v2 v3 v4 f S) : (∃ a c, v1 = .slice a S.ds.length c) ∧ (∃ a c, v2 = .slice a S.rs.length c) ∧ (∃ a c, v3 = .slice a S.ss.length c) ∧ (∃ a c, v4 = .slice a S.cs.length c) := by
  obtain ⟨a1, c1, e1⟩ := h.d.form
  obtain ⟨a2, c2, e2⟩ := h.r.form
  obtain ⟨a3, c3, e3⟩ := h.s.form
  obtain ⟨a4, c4, e4⟩ := h.c.form
  exact ⟨⟨a1, c1, by simpa using e1⟩, ⟨a2, c2, by simpa using e2⟩, ⟨a3, c3, by simpa using e3⟩, ⟨a4, c4, by simpa using e4⟩⟩
theorem Blk.four {W : World} {B : Nat} {t : TypeId} {a b c d : Value} (h : Blk W B t #[a, b, c, d]) : W.cell? ⟨B, 0, none⟩ = some a ∧ W.cell? ⟨B, 1, none⟩ = some b ∧ W.cell? ⟨B, 2, none⟩ = some c ∧ W.cell? ⟨B, 3, none⟩ = some d :=
  ⟨h.cell 0, h.cell 1, h.cell 2, h.cell 3⟩
end Go.Proofs.YtppccacfdpkkgaaGreatDoor
