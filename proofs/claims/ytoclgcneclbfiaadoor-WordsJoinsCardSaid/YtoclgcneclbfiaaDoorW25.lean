/-
  CONTRACTS: Join of the program.
-/
import Derived.Test.YtoclgcneclbfiaaDoorW24
namespace Go.Proofs.YtoclgcneclbfiaaDoor
open Go.RowKit
theorem lineL_join : ∀ fs : List (Bool × List UInt8), lineL fs = Lib.join (fs.map wr) [32]
  | [] => rfl
  | [f] => by simp [lineL, Lib.join, List.intercalate]
  | f :: g :: r => by
    rw [lineL, lineL_join (g :: r)]
    simp [Lib.join, List.intercalate]
/-- The bytes of the texts, each with one byte behind it. -/
def szs (ps : List ByteArray) : Nat := (ps.map fun p => p.size + 1).sum
theorem szs_snoc (ps : List ByteArray) (p : ByteArray) : szs (ps ++ [p]) = szs ps + (p.size + 1) := by simp [szs]
theorem szs_le {ps : List ByteArray} (h : ∀ p ∈ ps, p.size ≤ 402) : szs ps ≤ 403 * ps.length := by
  induction ps with
  | nil => simp [szs]
  | cons p ps ih =>
    have h1 := h p (by simp)
    have h2 := ih (fun q hq => h q (by simp [hq]))
    simp only [szs, List.map_cons, List.sum_cons, List.length_cons] at *
    omega
theorem szs_line : ∀ (fs : List (Bool × List UInt8)) (ps : List ByteArray), ps.map L = fs.map wr → fs ≠ [] → szs ps = (lineL fs).length + 1
  | [], _, _, h => absurd rfl h
  | [f], ps, h, _ => by
    cases ps with
    | nil => cases h
    | cons p qs =>
      simp only [List.map_cons, List.map_nil] at h
      have h1 := (List.cons.inj h).1
      have h2 : qs = [] := by simpa using (List.cons.inj h).2
      subst h2
      rw [lineL, ← h1, L_length]
      simp [szs]
  | f :: g :: r, ps, h, _ => by
    cases ps with
    | nil => cases h
    | cons p qs =>
      rw [List.map_cons, List.map_cons] at h
      have h1 := (List.cons.inj h).1
      have ih := szs_line (g :: r) qs (List.cons.inj h).2 (by simp)
      have e : szs (p :: qs) = p.size + 1 + szs qs := by simp [szs]
      rw [e, ih, lineL, List.length_append, List.length_cons, ← h1, L_length]
      omega
/-- Behind k fields. -/
structure Wrote (fs : List (Bool × ByteArray)) (k : Nat) (ps : List ByteArray) : Prop where
  len : ps.length = k
  text : ps.map L = ((fs.take k).map fL).map wr
  right : ((fs.take k).map fL).all rightF = true
  small : ∀ p ∈ ps, p.size ≤ 402
theorem wrote_start (fs : List (Bool × ByteArray)) : Wrote fs 0 [] := ⟨rfl, rfl, rfl, fun _ h => by cases h⟩
theorem wrote_step {fs : List (Bool × ByteArray)} {k : Nat} {ps : List ByteArray} {p : ByteArray} (h : Wrote fs k ps) (hk : k < fs.length) (hp : L p = wr (fL fs[k])) (hr : rightF (fL fs[k]) = true) (hz : p.size ≤ 402) : Wrote fs (k + 1) (ps ++ [p]) where
  len := by rw [List.length_append, h.len]; rfl
  text := by rw [map_take_succ fL fs k hk, List.map_append, List.map_append, h.text, List.map_singleton, List.map_singleton, hp]
  right := by rw [map_take_succ fL fs k hk, List.all_append, h.right, List.all_cons, hr]; rfl
  small := fun q hq => by
    rcases List.mem_append.1 hq with hq | hq
    · exact h.small q hq
    · rw [List.mem_singleton.1 hq]; exact hz
theorem wrote_all {fs : List (Bool × ByteArray)} {k : Nat} {ps : List ByteArray} (h : Wrote fs k ps) (hk : fs.length ≤ k) : ps.map L = (fs.map fL).map wr ∧ (fs.map fL).all rightF = true := by
  have h1 := h.text
  have h2 := h.right
  rw [List.take_of_length_le hk] at h1 h2
  exact ⟨h1, h2⟩
theorem join_long {fs : List (Bool × List UInt8)} (h : 64 < fs.length) : joinL fs = (3, []) := by unfold joinL; rw [if_pos h]
theorem join_wrong {fs : List (Bool × ByteArray)} {k : Nat} (h : ¬ 64 < fs.length) (hk : k < fs.length) (hr : rightF (fL fs[k]) = false) : joinL (fs.map fL) = (2, []) := by
  unfold joinL
  rw [if_neg (by simpa using h), if_pos]
  rw [Bool.eq_false_iff]
  intro ha
  have := List.all_eq_true.1 ha (fL fs[k]) (List.mem_map_of_mem (List.getElem_mem hk))
  rw [hr] at this
  cases this
theorem join_says {fs : List (Bool × List UInt8)} (h : ¬ 64 < fs.length) (hr : fs.all rightF = true) : joinL fs = if 4096 < (lineL fs).length then (3, []) else (0, lineL fs) := by
  unfold joinL
  rw [if_neg h, if_neg (by rw [hr]; decide)]
theorem join_full {fs : List (Bool × List UInt8)} {ps : List ByteArray} (h : ¬ 64 < fs.length) (hr : fs.all rightF = true) (ht : ps.map L = fs.map wr) (hz : 4097 < szs ps) : joinL fs = (3, []) := by
  rw [join_says h hr, if_pos]
  by_cases h0 : fs = []
  · subst h0
    have : ps = [] := by simpa using ht
    subst this
    simp [szs] at hz
  · have := szs_line fs ps ht h0
    omega
theorem join_good {fs : List (Bool × List UInt8)} {ps : List ByteArray} (h : ¬ 64 < fs.length) (hr : fs.all rightF = true) (ht : ps.map L = fs.map wr) (hz : ¬ 4097 < szs ps) : joinL fs = (0, Lib.join (ps.map L) [32]) ∧ (Lib.join (ps.map L) [32]).length ≤ 4096 := by
  rw [ht, ← lineL_join]
  have hle : (lineL fs).length ≤ 4096 := by
    by_cases h0 : fs = []
    · subst h0; simp [lineL]
    · have := szs_line fs ps ht h0
      omega
  exact ⟨by rw [join_says h hr, if_neg (by omega)], hle⟩
def JoinEnds (fs : List (Bool × ByteArray)) (w : World) (e : Ending) (w' : World) : Prop := ∃ s : ByteArray, e = .returned (.tuple #[.string s, .int .i64 (joinL (fs.map fL)).1]) ∧ L s = (joinL (fs.map fL)).2 ∧ Below w.heap.size w w'
theorem joinEnds_none {fs : List (Bool × ByteArray)} {w w' : World} {k : Int} {v : Value} (hv : v = .tuple #[.string ⟨#[]⟩, .int .i64 k]) (h : joinL (fs.map fL) = (k, [])) (hb : Below w.heap.size w w') : JoinEnds fs w (.returned v) w' :=
  ⟨⟨#[]⟩, by rw [hv, h], by rw [h]; rfl, hb⟩
theorem joinText (v : Value) (ps : List ByteArray) (w : World) (h : SRead w v ps) (hz : (Lib.join (ps.map L) [32]).length ≤ 4096) (hn : ps.length ≤ 64) (hc : ∀ a c, v = .slice a ps.length c → ps.length ≤ c) :
    Calls Tryd.prog 56 #[v, .string ⟨#[32]⟩] w fun e w' => ∃ s : ByteArray, e = .returned (.string s) ∧ L s = Lib.join (ps.map L) [32] ∧ Below w.heap.size w w' := by
  obtain ⟨a, c, rfl, hr⟩ := h
  by_cases h0 : ps = []
  · subst h0
    refine (Tryd.strings_Join_none a c ⟨#[32]⟩ w).mono ?_
    rintro e w' ⟨rfl, rfl⟩
    exact ⟨_, rfl, rfl, Below.refl _ _⟩
  · have hpos : 0 < ps.length := by rw [Nat.pos_iff_ne_zero, ne_eq, List.length_eq_zero_iff]; exact h0
    obtain ⟨b, o, rfl, hc0⟩ := hr 0 hpos
    refine (Tryd.strings_Join b o c ps ⟨#[32]⟩ w (fun j x hj => ?_) (cell_size hc0) (by omega) (hc _ _ rfl) (by refine Nat.le_trans hz (by omega))).mono ?_
    · obtain ⟨hj1, hj2⟩ := List.getElem?_eq_some_iff.1 hj
      obtain ⟨b', o', he, hcj⟩ := hr j hj1
      cases he
      rw [hj2] at hcj
      exact hcj
    · rintro e w' ⟨rfl, hb⟩
      exact ⟨_, rfl, rfl, hb⟩
theorem row_cap {W : World} {base : Nat} {t : TypeId} {k n : Nat} {a : Option Addr} {c : Nat} {xs : List Value} (h : W.ownsRow base t 1 (.slice a n c) k xs) : n ≤ c := by
  rcases h.2 with ⟨h1, h0⟩ | ⟨g, cap, cur, h1, _, _, h4, _⟩
  · cases h1; exact Nat.le_refl _
  · cases h1; exact h4
end Go.Proofs.YtoclgcneclbfiaaDoor
