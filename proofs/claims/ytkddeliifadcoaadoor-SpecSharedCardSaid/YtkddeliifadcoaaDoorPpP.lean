/-
  PLAIN: pipes: all of a specification, those that a key of a stop plays. No program in sight.
-/
import Derived.Test.YtkddeliifadcoaaDoorSpP
namespace Go.Proofs.YtkddeliifadcoaaDoor
/-- A pipe: its rank and its note. -/
abbrev Pp := Int × Int
def ppLt (a b : Pp) : Prop := a.1 < b.1 ∨ a.1 = b.1 ∧ a.2 < b.2
theorem ppLt_irrefl (a : Pp) : ¬ ppLt a a := by unfold ppLt; omega
theorem ppLt_trans {a b c : Pp} (h : ppLt a b) (k : ppLt b c) : ppLt a c := by unfold ppLt at *; omega
theorem ppLt_total (a b : Pp) : ppLt a b ∨ a = b ∨ ppLt b a := by
  obtain ⟨a1, a2⟩ := a
  obtain ⟨b1, b2⟩ := b
  unfold ppLt
  simp only [Prod.mk.injEq]
  omega
/-- Two strictly ascending lists with the same members are one. -/
theorem asc_ext : ∀ {l m : List Pp}, l.Pairwise ppLt → m.Pairwise ppLt → (∀ x, x ∈ l ↔ x ∈ m) → l = m
  | [], [], _, _, _ => rfl
  | [], b :: m, _, _, h => by have := (h b).2 (by simp); simp at this
  | a :: l, [], _, _, h => by have := (h a).1 (by simp); simp at this
  | a :: l, b :: m, hl, hm, h => by
    rw [List.pairwise_cons] at hl hm
    have hab : a = b := by
      rcases List.mem_cons.1 ((h a).1 (by simp)) with e | e
      · exact e
      · rcases List.mem_cons.1 ((h b).2 (by simp)) with k | k
        · exact k.symm
        · exact absurd (ppLt_trans (hl.1 b k) (hm.1 a e)) (ppLt_irrefl a)
    subst hab
    congr 1
    refine asc_ext hl.2 hm.2 fun x => ⟨fun hx => ?_, fun hx => ?_⟩
    · rcases List.mem_cons.1 ((h x).1 (by simp [hx])) with e | e
      · subst e; exact absurd (hl.1 x hx) (ppLt_irrefl x)
      · exact e
    · rcases List.mem_cons.1 ((h x).2 (by simp [hx])) with e | e
      · subst e; exact absurd (hm.1 x hx) (ppLt_irrefl x)
      · exact e
/-- The pipes of a rank: its number, the lowest note, how many. -/
def ofRank (i : Int) (lo : Int) : Nat → List Pp
  | 0 => []
  | n + 1 => ofRank i lo n ++ [(i, lo + n)]
theorem mem_ofRank {i lo : Int} {n : Nat} {p : Pp} : p ∈ ofRank i lo n ↔ p.1 = i ∧ lo ≤ p.2 ∧ p.2 < lo + n := by
  obtain ⟨a, b⟩ := p
  induction n with
  | zero => simp [ofRank]
  | succ n ih => simp only [ofRank, List.mem_append, ih, List.mem_singleton, Prod.mk.injEq]; omega
theorem asc_ofRank (i lo : Int) (n : Nat) : (ofRank i lo n).Pairwise ppLt := by
  induction n with
  | zero => simp [ofRank]
  | succ n ih =>
    rw [ofRank, List.pairwise_append]
    refine ⟨ih, by simp, fun x hx y hy => ?_⟩
    rw [mem_ofRank] at hx
    simp only [List.mem_singleton] at hy
    subst hy
    unfold ppLt
    simp only
    omega
/-- All pipes of the ranks from a number on. -/
def allFrom : Int → List Rk → List Pp
  | _, [] => []
  | i, r :: l => ofRank i r.low r.cnt.toNat ++ allFrom (i + 1) l
theorem allFrom_ge : ∀ {i : Int} {l : List Rk} {p : Pp}, p ∈ allFrom i l → i ≤ p.1
  | _, [], _, h => by simp [allFrom] at h
  | i, r :: l, p, h => by
    rw [allFrom, List.mem_append] at h
    rcases h with h | h
    · rw [mem_ofRank] at h; omega
    · have := allFrom_ge h; omega
theorem asc_allFrom : ∀ (i : Int) (l : List Rk), (allFrom i l).Pairwise ppLt
  | _, [] => by simp [allFrom]
  | i, r :: l => by
    rw [allFrom, List.pairwise_append]
    refine ⟨asc_ofRank _ _ _, asc_allFrom _ _, fun x hx y hy => ?_⟩
    have h1 := mem_ofRank.1 hx
    have h2 := allFrom_ge hy
    unfold ppLt
    omega
theorem mem_allFrom : ∀ {i : Int} {l : List Rk} {p : Pp}, p ∈ allFrom i l ↔ ∃ k, ∃ h : k < l.length, p.1 = i + k ∧ l[k].low ≤ p.2 ∧ p.2 < l[k].low + l[k].cnt.toNat
  | i, [], p => by simp [allFrom]
  | i, r :: l, p => by
    rw [allFrom, List.mem_append, mem_ofRank, mem_allFrom]
    constructor
    · rintro (h | ⟨k, hk, h1, h2, h3⟩)
      · exact ⟨0, by simp, by simpa using h⟩
      · exact ⟨k + 1, by simpa using hk, by push_cast; omega, by simpa using h2, by simpa using h3⟩
    · rintro ⟨k, hk, h1, h2, h3⟩
      cases k with
      | zero => left; exact ⟨by simpa using h1, h2, h3⟩
      | succ k => right; exact ⟨k, by simpa using hk, by push_cast at h1; omega, by simpa using h2, by simpa using h3⟩
def ppLe (a b : Pp) : Prop := ¬ ppLt b a
/-- Runs of equal neighbours become one. -/
def squeeze : List Pp → List Pp
  | [] => []
  | [a] => [a]
  | a :: b :: l => if a = b then squeeze (b :: l) else a :: squeeze (b :: l)
theorem mem_squeeze : ∀ {l : List Pp} {x : Pp}, x ∈ squeeze l ↔ x ∈ l
  | [], x => by simp [squeeze]
  | [a], x => by simp [squeeze]
  | a :: b :: l, x => by
    rw [squeeze]
    by_cases h : a = b
    · rw [if_pos h, mem_squeeze, h]; simp
    · rw [if_neg h, List.mem_cons, mem_squeeze, List.mem_cons, List.mem_cons, List.mem_cons]
theorem asc_squeeze : ∀ {l : List Pp}, l.Pairwise ppLe → (squeeze l).Pairwise ppLt
  | [], _ => by simp [squeeze]
  | [a], _ => by simp [squeeze]
  | a :: b :: l, h => by
    rw [squeeze]
    have h1 := List.pairwise_cons.1 h
    by_cases e : a = b
    · rw [if_pos e]; exact asc_squeeze h1.2
    · rw [if_neg e, List.pairwise_cons]
      refine ⟨fun x hx => ?_, asc_squeeze h1.2⟩
      rw [mem_squeeze] at hx
      have h2 := List.pairwise_cons.1 h1.2
      have hab : ppLt a b := by
        rcases ppLt_total a b with k | k | k
        · exact k
        · exact absurd k e
        · exact absurd k (h1.1 b (by simp))
      rcases List.mem_cons.1 hx with rfl | hx
      · exact hab
      · rcases ppLt_total b x with k | k | k
        · exact ppLt_trans hab k
        · exact k ▸ hab
        · exact absurd k (h2.1 x hx)
/-- What a key plays by a stop: of each part that has the key. -/
def playsL (x : St) (key : Int) : List Pp := (x.parts.filter fun y => decide (y.lo ≤ key ∧ key ≤ y.hi)).map fun y => (y.rank, key + y.shift)
def playsB (x : St) (key : Int) (p : Pp) : Bool := x.parts.any fun y => decide (y.rank = p.1 ∧ y.lo ≤ key ∧ key ≤ y.hi ∧ key + y.shift = p.2)
theorem mem_playsL {x : St} {key : Int} {p : Pp} : p ∈ playsL x key ↔ playsB x key p = true := by
  unfold playsL playsB
  rw [List.mem_map, List.any_eq_true]
  constructor
  · rintro ⟨y, hy, rfl⟩
    rw [List.mem_filter] at hy
    exact ⟨y, hy.1, by have := hy.2; simp only [decide_eq_true_eq] at this ⊢; exact ⟨trivial, this.1, this.2, trivial⟩⟩
  · rintro ⟨y, hy, h⟩
    simp only [decide_eq_true_eq] at h
    exact ⟨y, List.mem_filter.2 ⟨hy, by simpa using ⟨h.2.1, h.2.2.1⟩⟩, Prod.ext h.1 h.2.2.2⟩
/-- The program's way and the reference's. -/
theorem plays_law {x : St} {key : Int} {l all : List Pp} (hs : l.Pairwise ppLe) (hp : ∀ p, p ∈ l ↔ p ∈ playsL x key) (ha : all.Pairwise ppLt) (hin : ∀ p ∈ playsL x key, p ∈ all) : squeeze l = all.filter (playsB x key) := by
  refine asc_ext (asc_squeeze hs) (ha.filter _) fun p => ?_
  rw [mem_squeeze, hp, List.mem_filter, ← mem_playsL]
  exact ⟨fun h => ⟨hin p h, h⟩, fun h => h.2⟩
end Go.Proofs.YtkddeliifadcoaaDoor
