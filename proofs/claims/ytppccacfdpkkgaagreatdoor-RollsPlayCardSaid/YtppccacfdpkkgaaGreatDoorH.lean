/-
  PLAIN: a row of holes as two words of 64 bits; the longest run of holes. No program in sight. PLAIN: rolls: their errors; rows of numbers as rows of holes; Weak. No program in sight. PLAIN: slots of a track; what Weak says. No program in sight. PLAIN: Bridge: which holes the bridges take away. No program in sight. PLAIN: Read: the events of slots; that their order leaves no choice; a sort by swaps of neighbours. No program in sight. PLAIN: scales and recordings: their errors, what is on behind some events, Make. No program in sight. PLAIN: the error of a roll, case by case. No program in sight. PLAIN: Make: what is on behind the events up to a tick. No program in sight. PLAIN: Read: what it returns; the numbers of its events are small; rolls whose slots are alike are read alike. No program in sight. PLAIN: Bridge: rows from which holes are taken, step by step. No program in sight. PLAIN: Bridge: what it returns, and the way of the reference to it. No program in sight. PLAIN: bridges: no slot is longer than a part and a bridge; a gap that is not less does not see them. No program in sight.
-/
import Derived.WalkKit
import Derived.Test.YtppccacfdpkkgaaGreatDoorSpP
namespace Go.Proofs.YtppccacfdpkkgaaGreatDoor
theorem ofInt_word {a : Nat} (h : a < 2 ^ 64) : (BitVec.ofInt 64 (a : Int)).toNat = a := by
  rw [BitVec.ofInt_natCast, BitVec.toNat_ofNat]
  exact Nat.mod_eq_of_lt h
theorem word_wrap {a : Nat} (h : a < 2 ^ 64) : IntKind.u64.wrap (a : Int) = (a : Int) := by
  rw [IntKind.wrap_u64]
  omega
theorem word_or {a b : Nat} (ha : a < 2 ^ 64) (hb : b < 2 ^ 64) : bits .or .u64 (a : Int) (b : Int) = ((a ||| b : Nat) : Int) := by
  show IntKind.u64.wrap ((BitVec.ofInt 64 (a : Int) ||| BitVec.ofInt 64 (b : Int)).toNat : Int) = _
  rw [BitVec.toNat_or, ofInt_word ha, ofInt_word hb]
  exact word_wrap (Nat.or_lt_two_pow ha hb)
theorem word_and {a b : Nat} (ha : a < 2 ^ 64) (hb : b < 2 ^ 64) : bits .and .u64 (a : Int) (b : Int) = ((a &&& b : Nat) : Int) := by
  show IntKind.u64.wrap ((BitVec.ofInt 64 (a : Int) &&& BitVec.ofInt 64 (b : Int)).toNat : Int) = _
  rw [BitVec.toNat_and, ofInt_word ha, ofInt_word hb]
  exact word_wrap (Nat.lt_of_le_of_lt Nat.and_le_left ha)
/-- A word without the bits of another one. -/
def wclr (a b : Nat) : Nat := a &&& (2 ^ 64 - (b + 1))
theorem word_clr {a b : Nat} (ha : a < 2 ^ 64) (hb : b < 2 ^ 64) : bits .andNot .u64 (a : Int) (b : Int) = ((wclr a b : Nat) : Int) := by
  show IntKind.u64.wrap ((BitVec.ofInt 64 (a : Int) &&& ~~~(BitVec.ofInt 64 (b : Int))).toNat : Int) = _
  rw [BitVec.toNat_and, BitVec.toNat_not, ofInt_word ha, ofInt_word hb, show 2 ^ 64 - 1 - b = 2 ^ 64 - (b + 1) by omega]
  exact word_wrap (Nat.lt_of_le_of_lt Nat.and_le_left ha)
theorem wclr_lt {a b : Nat} (ha : a < 2 ^ 64) : wclr a b < 2 ^ 64 := Nat.lt_of_le_of_lt Nat.and_le_left ha
theorem wclr_bit {a b i : Nat} (hb : b < 2 ^ 64) (hi : i < 64) : (wclr a b).testBit i = (a.testBit i && !b.testBit i) := by
  unfold wclr
  rw [Nat.testBit_and, Nat.testBit_two_pow_sub_succ hb, decide_eq_true hi, Bool.true_and]
/-- A row: two words. -/
abbrev Rw := Nat × Nat
structure RwOk (q : Rw) : Prop where
  lo : q.1 < 2 ^ 64
  hi : q.2 < 2 ^ 64
def hole (q : Rw) (t : Nat) : Bool := if t < 64 then q.1.testBit t else q.2.testBit (t - 64)
/-- A word with a bit put. -/
def wput (a s : Nat) (b : Bool) : Nat := if b then wclr a (2 ^ s) ||| 2 ^ s else wclr a (2 ^ s)
theorem pow_word {s : Nat} (h : s < 64) : (2 : Nat) ^ s < 2 ^ 64 := Nat.pow_lt_pow_right (by omega) h
theorem wput_lt {a s : Nat} {b : Bool} (ha : a < 2 ^ 64) (hs : s < 64) : wput a s b < 2 ^ 64 := by
  unfold wput
  split
  · exact Nat.or_lt_two_pow (wclr_lt ha) (pow_word hs)
  · exact wclr_lt ha
theorem wput_bit {a s i : Nat} {b : Bool} (hs : s < 64) (hi : i < 64) : (wput a s b).testBit i = if i = s then b else a.testBit i := by
  unfold wput
  by_cases h : i = s
  · subst h
    rw [if_pos rfl]
    cases b with
    | true => rw [if_pos rfl, Nat.testBit_or, Nat.testBit_two_pow_self, Bool.or_true]
    | false => rw [if_neg (by decide), wclr_bit (pow_word hs) hi, Nat.testBit_two_pow_self, Bool.not_true, Bool.and_false]
  · rw [if_neg h]
    have e : (2 ^ s).testBit i = false := by rw [Nat.testBit_two_pow]; exact decide_eq_false (fun q => h q.symm)
    cases b with
    | true => rw [if_pos rfl, Nat.testBit_or, wclr_bit (pow_word hs) hi, e, Bool.not_false, Bool.and_true, Bool.or_false]
    | false => rw [if_neg (by decide), wclr_bit (pow_word hs) hi, e, Bool.not_false, Bool.and_true]
def putR (q : Rw) (t : Nat) (b : Bool) : Rw := if t < 64 then (wput q.1 t b, q.2) else (q.1, wput q.2 (t - 64) b)
theorem putR_ok {q : Rw} {t : Nat} {b : Bool} (h : RwOk q) (ht : t < 128) : RwOk (putR q t b) := by
  unfold putR
  split
  · exact ⟨wput_lt h.lo (by omega), h.hi⟩
  · exact ⟨h.lo, wput_lt h.hi (by omega)⟩
theorem putR_hole {q : Rw} {t u : Nat} {b : Bool} (ht : t < 128) (hu : u < 128) : hole (putR q t b) u = if u = t then b else hole q u := by
  unfold putR hole
  by_cases h1 : t < 64 <;> by_cases h2 : u < 64 <;> simp only [h1, h2, if_true, if_false]
  · rw [wput_bit h1 h2]
  · rw [if_neg (by omega)]
  · rw [if_neg (by omega)]
  · rw [wput_bit (by omega) (by omega)]
    by_cases h : u = t
    · rw [if_pos h, if_pos (by omega)]
    · rw [if_neg h, if_neg (by omega)]
/-- The row of the tracks whose neighbour below has a hole, too. -/
def nextR (q : Rw) : Rw := (q.1 &&& (q.1 * 2 % 2 ^ 64), q.2 &&& ((q.2 * 2 % 2 ^ 64) ||| q.1 / 2 ^ 63))
theorem nextR_ok {q : Rw} (h : RwOk q) : RwOk (nextR q) := ⟨Nat.lt_of_le_of_lt Nat.and_le_left h.lo, Nat.lt_of_le_of_lt Nat.and_le_left h.hi⟩
theorem dbl_bit {a i : Nat} (hi : i < 64) : (a * 2 % 2 ^ 64).testBit i = (decide (1 ≤ i) && a.testBit (i - 1)) := by
  rw [Nat.testBit_mod_two_pow, decide_eq_true hi, Bool.true_and, show a * 2 = a <<< 1 by rw [Nat.shiftLeft_eq], Nat.testBit_shiftLeft]
theorem top_bit {a i : Nat} (ha : a < 2 ^ 64) : (a / 2 ^ 63).testBit i = (decide (i = 0) && a.testBit 63) := by
  rw [← Nat.shiftRight_eq_div_pow, Nat.testBit_shiftRight]
  by_cases h : i = 0
  · subst h; simp
  · rw [decide_eq_false h, Bool.false_and]
    exact Nat.testBit_lt_two_pow (Nat.lt_of_lt_of_le ha (Nat.pow_le_pow_right (by omega) (by omega)))
theorem nextR_hole {q : Rw} (h : RwOk q) {t : Nat} (ht : t < 128) : hole (nextR q) t = (hole q t && (decide (1 ≤ t) && hole q (t - 1))) := by
  unfold nextR hole
  by_cases h1 : t < 64
  · rw [if_pos h1, if_pos h1, if_pos (by omega), Nat.testBit_and, dbl_bit h1]
  · rw [if_neg h1, if_neg h1, Nat.testBit_and, Nat.testBit_or, dbl_bit (by omega), top_bit h.lo, decide_eq_true (show 1 ≤ t by omega), Bool.true_and]
    by_cases h2 : t = 64
    · subst h2
      simp
    · rw [if_neg (by omega), decide_eq_true (show 1 ≤ t - 64 by omega), decide_eq_false (show ¬ t - 64 = 0 by omega), Bool.true_and, Bool.false_and, Bool.or_false, show t - 64 - 1 = t - 1 - 64 by omega]
theorem hole_none {q : Rw} (h : RwOk q) : (∀ t, t < 128 → hole q t = false) ↔ q = (0, 0) := by
  constructor
  · intro hz
    obtain ⟨a, b⟩ := q
    have h1 : a = 0 := Nat.eq_of_testBit_eq fun i => by
      rw [Nat.zero_testBit]
      by_cases hi : i < 64
      · have := hz i (by omega)
        unfold hole at this
        rwa [if_pos hi] at this
      · exact Nat.testBit_lt_two_pow (Nat.lt_of_lt_of_le h.lo (Nat.pow_le_pow_right (by omega) (by omega)))
    have h2 : b = 0 := Nat.eq_of_testBit_eq fun i => by
      rw [Nat.zero_testBit]
      by_cases hi : i < 64
      · have := hz (i + 64) (by omega)
        unfold hole at this
        rwa [if_neg (by omega), show i + 64 - 64 = i by omega] at this
      · exact Nat.testBit_lt_two_pow (Nat.lt_of_lt_of_le h.hi (Nat.pow_le_pow_right (by omega) (by omega)))
    rw [h1, h2]
  · rintro rfl t _
    unfold hole
    split <;> exact Nat.zero_testBit _
/-- How many holes beside each other end at a track. -/
def runE (f : Nat → Bool) : Nat → Nat
  | 0 => if f 0 then 1 else 0
  | t + 1 => if f (t + 1) then runE f t + 1 else 0
/-- The longest run of holes below a track. -/
def worst (f : Nat → Bool) : Nat → Nat
  | 0 => 0
  | k + 1 => max (worst f k) (runE f k)
theorem runE_le (f : Nat → Bool) : ∀ t, runE f t ≤ t + 1
  | 0 => by unfold runE; split <;> omega
  | t + 1 => by
    have := runE_le f t
    unfold runE
    split <;> omega
theorem le_worst {f : Nat → Bool} {t : Nat} : ∀ {k : Nat}, t < k → runE f t ≤ worst f k
  | 0, h => by omega
  | k + 1, h => by
    rw [worst]
    by_cases e : t = k
    · subst e; omega
    · have := le_worst (f := f) (show t < k by omega)
      omega
theorem worst_at {f : Nat → Bool} : ∀ {k : Nat}, 0 < worst f k → ∃ t, t < k ∧ runE f t = worst f k
  | 0, h => by cases h
  | k + 1, h => by
    rw [worst] at h ⊢
    by_cases e : worst f k ≤ runE f k
    · exact ⟨k, by omega, by omega⟩
    · obtain ⟨t, h1, h2⟩ := worst_at (f := f) (k := k) (by omega)
      exact ⟨t, by omega, by omega⟩
theorem worst_le {f : Nat → Bool} {k : Nat} : worst f k ≤ k := by
  by_cases h : 0 < worst f k
  · obtain ⟨t, h1, h2⟩ := worst_at h
    have := runE_le f t
    omega
  · omega
theorem worst_wide {f : Nat → Bool} {k : Nat} : ∀ {n : Nat}, k ≤ n → (∀ t, k ≤ t → t < n → f t = false) → worst f n = worst f k
  | n, h, hz => by
    by_cases e : k = n
    · rw [e]
    · obtain ⟨m, rfl⟩ : ∃ m, n = m + 1 := ⟨n - 1, by omega⟩
      rw [worst, worst_wide (n := m) (by omega) (fun t h1 h2 => hz t h1 (by omega))]
      have : runE f m = 0 := by
        have := hz m (by omega) (by omega)
        cases m with
        | zero => rw [runE, this]; rfl
        | succ m => rw [runE, this]; rfl
      omega
/-- After n rounds a bit stands exactly if more than n holes end there. -/
theorem round_next {f g h : Nat → Bool} {n : Nat} (hg : ∀ t, t < 128 → g t = decide (n < runE f t)) (hh : ∀ t, t < 128 → h t = (g t && (decide (1 ≤ t) && g (t - 1)))) : ∀ t, t < 128 → h t = decide (n + 1 < runE f t) := by
  intro t ht
  rw [hh t ht, hg t ht]
  cases t with
  | zero =>
    have := runE_le f 0
    rw [decide_eq_false (show ¬ 1 ≤ 0 by omega), Bool.false_and, Bool.and_false, decide_eq_false (by omega)]
  | succ t =>
    rw [decide_eq_true (show 1 ≤ t + 1 by omega), Bool.true_and, show t + 1 - 1 = t by omega, hg t (by omega)]
    rw [runE]
    by_cases e : f (t + 1) = true
    · rw [if_pos e, ← Bool.decide_and]
      exact decide_eq_decide.2 (by omega)
    · rw [if_neg e, decide_eq_false (show ¬ n < 0 by omega), Bool.false_and, decide_eq_false (by omega)]
theorem round_first {f : Nat → Bool} : ∀ t, f t = decide (0 < runE f t) := by
  intro t
  cases t with
  | zero => rw [runE]; cases f 0 <;> rfl
  | succ t =>
    rw [runE]
    cases f (t + 1) with
    | true => rw [if_pos rfl, decide_eq_true (by omega)]
    | false => rfl
/-- The rounds end behind the longest run. -/
theorem round_end {f g : Nat → Bool} {n : Nat} (hg : ∀ t, t < 128 → g t = decide (n < runE f t)) : (∀ t, t < 128 → g t = false) ↔ worst f 128 ≤ n := by
  constructor
  · intro hz
    by_cases h : 0 < worst f 128
    · obtain ⟨t, h1, h2⟩ := worst_at h
      have := hz t h1
      rw [hg t h1] at this
      have := of_decide_eq_false this
      omega
    · omega
  · intro h t ht
    rw [hg t ht]
    have := le_worst (f := f) ht
    exact decide_eq_false (by omega)
structure Ro where
  tracks : Int
  rows : List (List Int)
/-- The first of n values that is not 0. -/
def firstErr (f : Nat → Int) : Nat → Int
  | 0 => 0
  | n + 1 => if firstErr f n = 0 then f n else firstErr f n
theorem firstErr_next {f : Nat → Int} {k : Nat} (h : firstErr f k = 0) : firstErr f (k + 1) = f k := by rw [firstErr, if_pos h]
theorem firstErr_at {f : Nat → Int} {k : Nat} (he : firstErr f k ≠ 0) : ∀ {n : Nat}, k ≤ n → firstErr f n = firstErr f k
  | 0, h => by
    have : k = 0 := by omega
    subst this
    rfl
  | n + 1, h => by
    by_cases e : k = n + 1
    · rw [e]
    · have := firstErr_at he (n := n) (by omega)
      rw [firstErr, if_neg (by rw [this]; exact he), this]
theorem firstErr_none {f : Nat → Int} : ∀ {n : Nat}, firstErr f n = 0 → ∀ j, j < n → f j = 0
  | 0, _, j, hj => by omega
  | n + 1, h, j, hj => by
    rw [firstErr] at h
    by_cases e : firstErr f n = 0
    · rw [if_pos e] at h
      by_cases q : j = n
      · rw [q]; exact h
      · exact firstErr_none e j (by omega)
    · rw [if_neg e] at h
      exact absurd h e
theorem firstErr_zero {f : Nat → Int} : ∀ {n : Nat}, (∀ j, j < n → f j = 0) → firstErr f n = 0
  | 0, _ => rfl
  | n + 1, h => by rw [firstErr_next (firstErr_zero fun j hj => h j (by omega)), h n (by omega)]
/-- The error of a number of a row. -/
def numErr (tr : Int) (l : List Int) (k : Nat) : Int :=
  if l.getD k 0 < 0 ∨ l.getD k 0 ≥ tr then 7 else if 0 < k ∧ l.getD k 0 ≤ l.getD (k - 1) 0 then 8 else 0
def rowErr (tr : Int) (g : Bool) (l : List Int) : Int :=
  if firstErr (numErr tr l) l.length = 0 then (if g = true ∧ (0 : Int) ∉ l then 6 else 0) else firstErr (numErr tr l) l.length
/-- The error of a roll. -/
def rollErr (R : Ro) (g : Bool) : Int :=
  if R.tracks < 2 ∨ R.tracks > 128 then 7 else if R.rows.length > 20000 then 3 else firstErr (fun i => rowErr R.tracks g (R.rows.getD i [])) R.rows.length
theorem getD_at {α : Type} {l : List α} {k : Nat} (h : k < l.length) (d : α) : l.getD k d = l[k] := by
  rw [List.getD_eq_getElem?_getD, List.getElem?_eq_getElem h]
  rfl
/-- A row without error: ascending, its numbers those of tracks. -/
theorem row_asc {tr : Int} {l : List Int} (h : firstErr (numErr tr l) l.length = 0) : (∀ t ∈ l, 0 ≤ t ∧ t < tr) ∧ l.Pairwise (· < ·) := by
  have hk := firstErr_none h
  have h1 : ∀ k (hk' : k < l.length), 0 ≤ l[k] ∧ l[k] < tr ∧ ∀ hk0 : 0 < k, l[k - 1] < l[k] := by
    intro k hk'
    have := hk k hk'
    unfold numErr at this
    rw [getD_at hk'] at this
    by_cases e : l[k] < 0 ∨ l[k] ≥ tr
    · rw [if_pos e] at this; cases this
    · rw [if_neg e] at this
      refine ⟨by omega, by omega, fun hk0 => ?_⟩
      rw [getD_at (show k - 1 < l.length by omega)] at this
      by_cases e2 : 0 < k ∧ l[k] ≤ l[k - 1]
      · rw [if_pos e2] at this; cases this
      · omega
  constructor
  · intro t ht
    obtain ⟨k, hk', rfl⟩ := List.getElem_of_mem ht
    have := h1 k hk'
    exact ⟨this.1, this.2.1⟩
  · have step : ∀ d i (h' : i + d + 1 < l.length), l[i] < l[i + d + 1] := by
      intro d
      induction d with
      | zero =>
        intro i h'
        have := (h1 (i + 0 + 1) h').2.2 (by omega)
        simpa using this
      | succ d ih =>
        intro i h'
        have a := ih i (by omega)
        have b := (h1 (i + (d + 1) + 1) h').2.2 (by omega)
        have e : l[i + (d + 1) + 1 - 1] = l[i + d + 1] := by congr 1
        rw [e] at b
        omega
    rw [List.pairwise_iff_getElem]
    intro i j hi hj hij
    obtain ⟨d, rfl⟩ : ∃ d, j = i + d + 1 := ⟨j - i - 1, by omega⟩
    exact step d i hj
/-- A row of holes holds these numbers. -/
def Holds (q : Rw) (l : List Int) : Prop := RwOk q ∧ ∀ t, t < 128 → hole q t = decide ((t : Int) ∈ l)
theorem holds_nil : Holds (0, 0) [] := ⟨⟨by decide, by decide⟩, fun t _ => by unfold hole; split <;> simp⟩
theorem holds_put {q : Rw} {l : List Int} (h : Holds q l) {t : Nat} (ht : t < 128) : Holds (putR q t true) (l ++ [(t : Int)]) :=
  ⟨putR_ok h.1 ht, fun u hu => by
    rw [putR_hole ht hu, h.2 u hu]
    by_cases e : u = t
    · subst e; simp
    · rw [if_neg e]
      exact decide_eq_decide.2 (by simp; omega)⟩
/-- The numbers of the holes below a track. -/
def told (f : Nat → Bool) : Nat → List Int
  | 0 => []
  | t + 1 => told f t ++ if f t then [(t : Int)] else []
theorem mem_told {f : Nat → Bool} : ∀ {k : Nat} {n : Int}, n ∈ told f k ↔ ∃ t : Nat, t < k ∧ n = t ∧ f t = true
  | 0, n => by simp [told]
  | k + 1, n => by
    rw [told, List.mem_append, mem_told]
    constructor
    · rintro (⟨t, h1, h2, h3⟩ | h)
      · exact ⟨t, by omega, h2, h3⟩
      · split at h
        · rename_i hf
          exact ⟨k, by omega, by simpa using h, hf⟩
        · cases h
    · rintro ⟨t, h1, h2, h3⟩
      by_cases e : t = k
      · subst e
        right
        rw [if_pos h3]
        simp [h2]
      · exact .inl ⟨t, by omega, h2, h3⟩
theorem told_asc {f : Nat → Bool} : ∀ {k : Nat}, (told f k).Pairwise (· < ·)
  | 0 => List.Pairwise.nil
  | k + 1 => by
    rw [told, List.pairwise_append]
    refine ⟨told_asc, ?_, ?_⟩
    · split <;> simp
    · intro a ha b hb
      obtain ⟨t, h1, h2, _⟩ := mem_told.1 ha
      split at hb
      · have : b = k := by simpa using hb
        omega
      · cases hb
/-- Two ascending lists with the same numbers are one. -/
theorem asc_same : ∀ {l m : List Int}, l.Pairwise (· < ·) → m.Pairwise (· < ·) → (∀ n, n ∈ l ↔ n ∈ m) → l = m
  | [], [], _, _, _ => rfl
  | [], b :: m, _, _, h => by have := (h b).2 (by simp); cases this
  | a :: l, [], _, _, h => by have := (h a).1 (by simp); cases this
  | a :: l, b :: m, h1, h2, h => by
    rw [List.pairwise_cons] at h1 h2
    have e : a = b := by
      have p := (h a).1 (by simp)
      have q := (h b).2 (by simp)
      rw [List.mem_cons] at p q
      rcases p with p | p <;> rcases q with q | q
      · exact p
      · exact p
      · exact q.symm
      · have := h1.1 b q
        have := h2.1 a p
        omega
    subst e
    rw [asc_same h1.2 h2.2 fun n => ?_]
    have hn := h n
    rw [List.mem_cons, List.mem_cons] at hn
    constructor
    · intro q
      have := h1.1 n q
      rcases hn.1 (.inr q) with e | e
      · omega
      · exact e
    · intro q
      have := h2.1 n q
      rcases hn.2 (.inr q) with e | e
      · omega
      · exact e
/-- What is told of the holes of a row without error is the row. -/
theorem told_row {tr : Nat} {l : List Int} (htr : tr ≤ 128) (h : firstErr (numErr tr l) l.length = 0) {q : Rw} (hq : Holds q l) : told (hole q) tr = l := by
  obtain ⟨h1, h2⟩ := row_asc h
  refine asc_same told_asc h2 fun n => ?_
  rw [mem_told]
  constructor
  · rintro ⟨t, ht, rfl, hf⟩
    rw [hq.2 t (by omega)] at hf
    exact of_decide_eq_true hf
  · intro hn
    obtain ⟨a, b⟩ := h1 n hn
    refine ⟨n.toNat, by omega, by omega, ?_⟩
    rw [hq.2 n.toNat (by omega), show ((n.toNat : Nat) : Int) = n by omega]
    exact decide_eq_true hn
theorem runE_congr {f g : Nat → Bool} : ∀ {t : Nat}, (∀ u, u ≤ t → f u = g u) → runE f t = runE g t
  | 0, h => by rw [runE, runE, h 0 (by omega)]
  | t + 1, h => by rw [runE, runE, h (t + 1) (by omega), runE_congr fun u hu => h u (by omega)]
theorem worst_congr {f g : Nat → Bool} : ∀ {k : Nat}, (∀ t, t < k → f t = g t) → worst f k = worst g k
  | 0, _ => rfl
  | k + 1, h => by rw [worst, worst, worst_congr fun t ht => h t (by omega), runE_congr fun u hu => h u (by omega)]
/-- The rows of a roll in which more holes than a number are beside each other. -/
def weakL (rows : List (List Int)) (tr : Nat) (most : Int) : Nat → List Int
  | 0 => []
  | i + 1 => weakL rows tr most i ++ if ((worst (fun t => decide ((t : Int) ∈ rows.getD i [])) tr : Nat) : Int) > most then [(i : Int)] else []
theorem worst_row {tr : Nat} {l : List Int} (htr : tr ≤ 128) (h : ∀ t ∈ l, 0 ≤ t ∧ t < (tr : Int)) {q : Rw} (hq : Holds q l) : worst (hole q) 128 = worst (fun t => decide ((t : Int) ∈ l)) tr := by
  rw [worst_congr (g := fun t => decide ((t : Int) ∈ l)) (fun t ht => hq.2 t ht)]
  refine worst_wide htr fun t h1 _ => decide_eq_false fun hm => ?_
  have := h _ hm
  omega
/-- The slots of what is so in n rows, those with at most so many rows between them joined. -/
def slotsP (f : Nat → Bool) (gap : Int) : Nat → List (Nat × Nat)
  | 0 => []
  | n + 1 => if f n then (match (slotsP f gap n).getLast? with
    | some x => if (n : Int) - x.2 - 1 ≤ gap then (slotsP f gap n).dropLast ++ [(x.1, n)] else slotsP f gap n ++ [(n, n)]
    | none => [(n, n)]) else slotsP f gap n
theorem slotsP_skip {f : Nat → Bool} {gap : Int} {n : Nat} (h : f n = false) : slotsP f gap (n + 1) = slotsP f gap n := by rw [slotsP, h]; rfl
theorem slotsP_first {f : Nat → Bool} {gap : Int} {n : Nat} (h : f n = true) (hl : slotsP f gap n = []) : slotsP f gap (n + 1) = [(n, n)] := by rw [slotsP, if_pos h, hl]; rfl
theorem slotsP_join {f : Nat → Bool} {gap : Int} {n : Nat} (h : f n = true) {l : List (Nat × Nat)} {x : Nat × Nat} (hl : slotsP f gap n = l ++ [x]) (hg : (n : Int) - x.2 - 1 ≤ gap) : slotsP f gap (n + 1) = l ++ [(x.1, n)] := by
  rw [slotsP, if_pos h, hl]
  simp [hg]
theorem slotsP_new {f : Nat → Bool} {gap : Int} {n : Nat} (h : f n = true) {l : List (Nat × Nat)} {x : Nat × Nat} (hl : slotsP f gap n = l ++ [x]) (hg : ¬ (n : Int) - x.2 - 1 ≤ gap) : slotsP f gap (n + 1) = l ++ [x] ++ [(n, n)] := by
  rw [slotsP, if_pos h, hl]
  simp [hg]
/-- A bridge of a slot lies on a row. -/
def brkS (m w : Nat) (s : Nat × Nat) (r : Nat) : Bool := decide (s.1 ≤ r ∧ r ≤ s.2 ∧ m ≤ (r - s.1) % (m + w) ∧ (r - s.1) / (m + w) * (m + w) + m + w ≤ s.2 - s.1)
def brk (sl : List (Nat × Nat)) (m w : Nat) (r : Nat) : Bool := sl.any fun s => brkS m w s r
theorem brk_nil (m w r : Nat) : brk [] m w r = false := rfl
theorem brk_snoc (sl : List (Nat × Nat)) (s : Nat × Nat) (m w r : Nat) : brk (sl ++ [s]) m w r = (brk sl m w r || brkS m w s r) := by
  unfold brk
  rw [List.any_append]
  simp
/-- Behind j bridges of a slot. -/
def brkJ (m w : Nat) (s : Nat × Nat) (j r : Nat) : Bool := decide (s.1 ≤ r ∧ r ≤ s.2 ∧ m ≤ (r - s.1) % (m + w) ∧ (r - s.1) / (m + w) < j)
theorem brkJ_zero (m w : Nat) (s : Nat × Nat) (r : Nat) : brkJ m w s 0 r = false := decide_eq_false fun h => Nat.not_lt_zero _ h.2.2.2
theorem brkJ_end {m w : Nat} {s : Nat × Nat} {j : Nat} (hs : s.1 ≤ s.2) (h1 : j = 0 ∨ s.1 + (j - 1) * (m + w) + m + w ≤ s.2) (h2 : ¬ s.1 + j * (m + w) + m + w ≤ s.2) (r : Nat) : brkJ m w s j r = brkS m w s r := by
  unfold brkJ brkS
  refine decide_eq_decide.2 ?_
  have key : ∀ q : Nat, q < j ↔ q * (m + w) + m + w ≤ s.2 - s.1 := by
    intro q
    constructor
    · intro hq
      rcases h1 with h1 | h1
      · omega
      · have : q * (m + w) ≤ (j - 1) * (m + w) := Nat.mul_le_mul_right _ (by omega)
        omega
    · intro hq
      rcases Nat.lt_or_ge q j with h | h
      · exact h
      · have : j * (m + w) ≤ q * (m + w) := Nat.mul_le_mul_right _ h
        omega
  constructor
  · rintro ⟨a, b, c, d⟩
    exact ⟨a, b, c, (key _).1 d⟩
  · rintro ⟨a, b, c, d⟩
    exact ⟨a, b, c, (key _).2 d⟩
/-- One bridge more: the rows from its first one on. -/
theorem brkJ_next {m w : Nat} (hw : 0 < w) {s : Nat × Nat} {j : Nat} (h : s.1 + j * (m + w) + m + w ≤ s.2) (r : Nat) : brkJ m w s (j + 1) r = (brkJ m w s j r || decide (s.1 + j * (m + w) + m ≤ r ∧ r < s.1 + j * (m + w) + m + w)) := by
  unfold brkJ
  rw [← Bool.decide_or]
  refine decide_eq_decide.2 ?_
  have hp : 0 < m + w := by omega
  have hd := Nat.div_add_mod (r - s.1) (m + w)
  have hl := Nat.mod_lt (r - s.1) hp
  rw [Nat.mul_comm] at hd
  constructor
  · rintro ⟨a, b, c, d⟩
    rcases Nat.lt_or_ge ((r - s.1) / (m + w)) j with e | e
    · exact .inl ⟨a, b, c, e⟩
    · have e2 : (r - s.1) / (m + w) = j := by omega
      rw [e2] at hd
      exact .inr (by omega)
  · rintro (⟨a, b, c, d⟩ | ⟨a, b⟩)
    · exact ⟨a, b, c, by omega⟩
    · have e : r - s.1 = (r - (s.1 + j * (m + w))) + j * (m + w) := by omega
      have e1 : (r - s.1) / (m + w) = j := by
        rw [e, Nat.add_mul_div_right _ _ hp, Nat.div_eq_of_lt (by omega), Nat.zero_add]
      have e2 : (r - s.1) % (m + w) = r - (s.1 + j * (m + w)) := by
        rw [e, Nat.add_mul_mod_self_right, Nat.mod_eq_of_lt (by omega)]
      omega
/-- Which rows of a track have a hole. -/
def trk (R : Ro) (t : Nat) (i : Nat) : Bool := decide ((t : Int) ∈ R.rows.getD i [])
/-- The slots of a track. -/
def slotsR (R : Ro) (t : Nat) (gap : Int) : List (Nat × Nat) := slotsP (trk R t) gap R.rows.length
/-- What Bridge makes of a roll. -/
def bridgeRow (R : Ro) (m w : Nat) (i : Nat) (k : Nat) : List Int := (R.rows.getD i []).filter fun t => !(decide (0 < t.toNat ∧ t.toNat < k) && brk (slotsR R t.toNat 0) m w i)
theorem slotsP_in {f : Nat → Bool} {gap : Int} : ∀ {n : Nat}, ∀ s ∈ slotsP f gap n, s.1 ≤ s.2 ∧ s.2 < n
  | 0, s, h => by cases h
  | n + 1, s, h => by
    have ih : ∀ s ∈ slotsP f gap n, s.1 ≤ s.2 ∧ s.2 < n := slotsP_in (n := n)
    cases hf : f n with
    | false =>
      rw [slotsP_skip hf] at h
      have := ih s h
      omega
    | true =>
      rcases List.eq_nil_or_concat (slotsP f gap n) with e | ⟨l, x, e⟩
      · rw [slotsP_first hf e] at h
        rw [List.mem_singleton] at h
        subst h
        simp
      · rw [List.concat_eq_append] at e
        have hx := ih x (by rw [e]; simp)
        by_cases hg : (n : Int) - x.2 - 1 ≤ gap
        · rw [slotsP_join hf e hg, List.mem_append, List.mem_singleton] at h
          rcases h with h | rfl
          · have := ih s (by rw [e]; simp [h])
            omega
          · simp only
            omega
        · rw [slotsP_new hf e hg, List.mem_append, List.mem_singleton] at h
          rcases h with h | rfl
          · have := ih s (by rw [e]; exact h)
            omega
          · simp
/-- Between two slots there are more rows than may be joined. -/
theorem slotsP_apart {f : Nat → Bool} {gap : Int} : ∀ {n : Nat}, (slotsP f gap n).Pairwise fun a b => gap < (b.1 : Int) - a.2 - 1
  | 0 => List.Pairwise.nil
  | n + 1 => by
    have ih := slotsP_apart (f := f) (gap := gap) (n := n)
    have hin := slotsP_in (f := f) (gap := gap) (n := n)
    cases hf : f n with
    | false => rw [slotsP_skip hf]; exact ih
    | true =>
      rcases List.eq_nil_or_concat (slotsP f gap n) with e | ⟨l, x, e⟩
      · rw [slotsP_first hf e]; simp
      · rw [List.concat_eq_append] at e
        have ih' := ih
        rw [e, List.pairwise_append] at ih'
        by_cases hg : (n : Int) - x.2 - 1 ≤ gap
        · rw [slotsP_join hf e hg, List.pairwise_append]
          refine ⟨ih'.1, by simp, fun a ha b hb => ?_⟩
          rw [List.mem_singleton] at hb
          subst hb
          exact ih'.2.2 a ha x (by simp)
        · rw [slotsP_new hf e hg, ← e, List.pairwise_append]
          refine ⟨ih, by simp, fun a ha b hb => ?_⟩
          rw [List.mem_singleton] at hb
          subst hb
          rw [e, List.mem_append, List.mem_singleton] at ha
          rcases ha with ha | rfl
          · have h1 := ih'.2.2 a ha x (by simp)
            have h2 := hin x (by rw [e]; simp)
            simp only
            omega
          · simp only
            omega
/-- A thing: what, division, number. -/
abbrev Th := Int × Int × Int
/-- An event: tick, what, division, number, value. -/
abbrev Ev := Int × Int × Int × Int × Int
def evLt (a b : Ev) : Prop := a.1 < b.1 ∨ a.1 = b.1 ∧ (a.2.1 < b.2.1 ∨ a.2.1 = b.2.1 ∧ (a.2.2.1 < b.2.2.1 ∨ a.2.2.1 = b.2.2.1 ∧ a.2.2.2.1 < b.2.2.2.1))
instance (a b : Ev) : Decidable (evLt a b) := by unfold evLt; infer_instance
theorem evLt_irrefl (a : Ev) : ¬ evLt a a := by unfold evLt; omega
theorem evLt_asymm {a b : Ev} (h : evLt a b) : ¬ evLt b a := by unfold evLt at *; omega
theorem evLt_trans {a b c : Ev} (h : evLt a b) (k : evLt b c) : evLt a c := by unfold evLt at *; omega
theorem evLt_ntrans {a b c : Ev} (h : ¬ evLt a b) (k : ¬ evLt b c) : ¬ evLt a c := by unfold evLt at *; omega
def evLe (a b : Ev) : Prop := ¬ evLt b a
/-- Two events of one tick and one thing. -/
def evTie (a b : Ev) : Prop := a.1 = b.1 ∧ a.2.1 = b.2.1 ∧ a.2.2.1 = b.2.2.1 ∧ a.2.2.2.1 = b.2.2.2.1
theorem evTie_of {a b : Ev} (h : ¬ evLt a b) (k : ¬ evLt b a) : evTie a b := by unfold evLt evTie at *; omega
/-- No two events of a list tie. -/
def NoTie (l : List Ev) : Prop := l.Pairwise fun a b => ¬ evTie a b
theorem evTie_symm {a b : Ev} (h : evTie a b) : evTie b a := ⟨h.1.symm, h.2.1.symm, h.2.2.1.symm, h.2.2.2.symm⟩
theorem noTie_mem {l : List Ev} (h : NoTie l) {a b : Ev} (ha : a ∈ l) (hb : b ∈ l) (ht : evTie a b) : a = b := by
  induction l with
  | nil => cases ha
  | cons c l ih =>
    obtain ⟨h1, h2⟩ := List.pairwise_cons.1 h
    rcases List.mem_cons.1 ha with e1 | k1 <;> rcases List.mem_cons.1 hb with e2 | k2
    · rw [e1, e2]
    · rw [e1] at ht
      exact absurd ht (h1 b k2)
    · rw [e2] at ht
      exact absurd (evTie_symm ht) (h1 a k1)
    · exact ih h2 k1 k2
theorem noTie_perm {l m : List Ev} (h : NoTie l) (hp : l.Perm m) : NoTie m :=
  (List.Perm.pairwise_iff (fun {a b} (k : ¬ evTie a b) (q : evTie b a) => k (evTie_symm q)) hp).1 h
/-- Sorted, a list without ties is one. -/
theorem sorted_one : ∀ {l m : List Ev}, l.Perm m → NoTie l → l.Pairwise evLe → m.Pairwise evLe → l = m
  | [], m, hp, _, _, _ => (List.nil_perm.1 hp).symm
  | a :: l, [], hp, _, _, _ => absurd hp.length_eq (by simp)
  | a :: l, b :: m, hp, hn, hl, hm => by
    obtain ⟨l1, l2⟩ := List.pairwise_cons.1 hl
    obtain ⟨m1, m2⟩ := List.pairwise_cons.1 hm
    have e : a = b := by
      have ha : a ∈ b :: m := hp.mem_iff.1 (by simp)
      have hb : b ∈ a :: l := hp.mem_iff.2 (by simp)
      have ha' : a ∈ a :: l := by simp
      rcases List.mem_cons.1 ha with e | ha
      · exact e
      · rcases List.mem_cons.1 hb with e | hb2
        · exact e.symm
        · exact noTie_mem hn ha' hb (evTie_of (m1 a ha) (l1 b hb2))
    subst e
    rw [sorted_one (List.perm_cons a |>.1 hp) (List.pairwise_cons.1 hn).2 l2 m2]
/-- The events of a slot of a thing. -/
def evsOf (rt : Int) (x : Th) (s : Nat × Nat) : List Ev := [((s.1 : Int) * rt, x.1, x.2.1, x.2.2, 1), (((s.2 : Int) + 1) * rt, x.1, x.2.1, x.2.2, 0)]
/-- Those of slots that are long enough. -/
def evsL (rt : Int) (least : Int) (x : Th) : List (Nat × Nat) → List Ev
  | [] => []
  | s :: sl => (if (s.2 : Int) - s.1 + 1 < least then [] else evsOf rt x s) ++ evsL rt least x sl
theorem evsL_snoc (rt least : Int) (x : Th) : ∀ (sl : List (Nat × Nat)) (s : Nat × Nat), evsL rt least x (sl ++ [s]) = evsL rt least x sl ++ if (s.2 : Int) - s.1 + 1 < least then [] else evsOf rt x s
  | [], s => by simp [evsL]
  | a :: sl, s => by rw [List.cons_append, evsL, evsL_snoc rt least x sl s, evsL, List.append_assoc]
theorem evsL_len (rt least : Int) (x : Th) : ∀ sl : List (Nat × Nat), (evsL rt least x sl).length ≤ 2 * sl.length
  | [] => Nat.zero_le _
  | s :: sl => by
    have := evsL_len rt least x sl
    rw [evsL, List.length_append, List.length_cons]
    split
    · simp only [List.length_nil]; omega
    · simp only [evsOf, List.length_cons, List.length_nil]; omega
theorem mem_evsL {rt least : Int} {x : Th} {e : Ev} : ∀ {sl : List (Nat × Nat)}, e ∈ evsL rt least x sl → ∃ s ∈ sl, e ∈ evsOf rt x s
  | [], h => by cases h
  | s :: sl, h => by
    rw [evsL, List.mem_append] at h
    rcases h with h | h
    · split at h
      · cases h
      · exact ⟨s, by simp, h⟩
    · obtain ⟨q, h1, h2⟩ := mem_evsL h
      exact ⟨q, by simp [h1], h2⟩
/-- The events of the things from k on, the slots of each by its track. -/
def evsT (rt least : Int) (sl : Nat → List (Nat × Nat)) : Nat → List Th → List Ev
  | _, [] => []
  | k, x :: xs => evsL rt least x (sl k) ++ evsT rt least sl (k + 1) xs
theorem evsT_append (rt least : Int) (sl : Nat → List (Nat × Nat)) : ∀ (k : Nat) (a b : List Th), evsT rt least sl k (a ++ b) = evsT rt least sl k a ++ evsT rt least sl (k + a.length) b
  | k, [], b => by simp [evsT]
  | k, x :: a, b => by
    rw [List.cons_append, evsT, evsT_append rt least sl (k + 1) a b, evsT, List.append_assoc, List.length_cons]
    congr 3
    omega
theorem evsT_take (rt least : Int) (sl : Nat → List (Nat × Nat)) {xs : List Th} {k : Nat} (h : k < xs.length) : evsT rt least sl 1 (xs.take (k + 1)) = evsT rt least sl 1 (xs.take k) ++ evsL rt least xs[k] (sl (k + 1)) := by
  rw [List.take_succ_eq_append_getElem h, evsT_append, List.length_take, Nat.min_eq_left (Nat.le_of_lt h), evsT, evsT, List.append_nil, Nat.add_comm 1 k]
theorem mem_evsT {rt least : Int} {sl : Nat → List (Nat × Nat)} {e : Ev} : ∀ {k : Nat} {xs : List Th}, e ∈ evsT rt least sl k xs → ∃ x ∈ xs, ∃ j, e ∈ evsL rt least x (sl j)
  | _, [], h => by cases h
  | k, x :: xs, h => by
    rw [evsT, List.mem_append] at h
    rcases h with h | h
    · exact ⟨x, by simp, k, h⟩
    · obtain ⟨y, h1, j, h2⟩ := mem_evsT h
      exact ⟨y, by simp [h1], j, h2⟩
theorem evsOf_thing {rt : Int} {x : Th} {s : Nat × Nat} {e : Ev} (h : e ∈ evsOf rt x s) : (e.2.1, e.2.2.1, e.2.2.2.1) = x := by
  simp only [evsOf, List.mem_cons, List.mem_nil_iff, or_false] at h
  rcases h with rfl | rfl <;> rfl
theorem evsL_thing {rt least : Int} {x : Th} {sl : List (Nat × Nat)} {e : Ev} (h : e ∈ evsL rt least x sl) : (e.2.1, e.2.2.1, e.2.2.2.1) = x := by
  obtain ⟨s, _, h⟩ := mem_evsL h
  exact evsOf_thing h
theorem evsOf_tick {rt : Int} {x : Th} {s : Nat × Nat} {e : Ev} (h : e ∈ evsOf rt x s) : e.1 = (s.1 : Int) * rt ∨ e.1 = ((s.2 : Int) + 1) * rt := by
  simp only [evsOf, List.mem_cons, List.mem_nil_iff, or_false] at h
  rcases h with rfl | rfl
  · exact .inl rfl
  · exact .inr rfl
/-- Slots apart. -/
def Apart (sl : List (Nat × Nat)) : Prop := (∀ s ∈ sl, s.1 ≤ s.2) ∧ sl.Pairwise fun a b => a.2 + 1 < b.1
theorem apart_slots {f : Nat → Bool} {gap : Int} {n : Nat} (hg : 0 ≤ gap) : Apart (slotsP f gap n) :=
  ⟨fun s hs => (slotsP_in s hs).1, List.Pairwise.imp (fun {a b} h => by omega) slotsP_apart⟩
theorem evsL_noTie {rt least : Int} (hr : 1 ≤ rt) (x : Th) : ∀ {sl : List (Nat × Nat)}, Apart sl → NoTie (evsL rt least x sl)
  | [], _ => List.Pairwise.nil
  | s :: sl, ⟨h1, h2⟩ => by
    obtain ⟨p1, p2⟩ := List.pairwise_cons.1 h2
    have hs := h1 s (by simp)
    have mono : ∀ {a b : Nat}, a < b → (a : Int) * rt < (b : Int) * rt := fun {a b} h => Int.mul_lt_mul_of_pos_right (by omega) (by omega)
    rw [evsL]
    refine List.pairwise_append.2 ⟨?_, evsL_noTie hr x ⟨fun q hq => h1 q (by simp [hq]), p2⟩, ?_⟩
    · split
      · exact List.Pairwise.nil
      · refine List.pairwise_cons.2 ⟨fun b hb => ?_, List.pairwise_singleton _ _⟩
        rw [List.mem_singleton] at hb
        subst hb
        intro ht
        have h3 := ht.1
        have h4 := mono (show s.1 < s.2 + 1 by omega)
        push_cast at h4
        simp only at h3
        omega
    · intro a ha b hb ht
      split at ha
      · cases ha
      · obtain ⟨q, hq, hbq⟩ := mem_evsL hb
        have hq1 := p1 q hq
        have hq2 := h1 q (by simp [hq])
        have t0 := ht.1
        have a1 := mono (show s.1 < s.2 + 1 by omega)
        have a2 := mono (show s.2 + 1 < q.1 by omega)
        have a3 := mono (show q.1 < q.2 + 1 by omega)
        push_cast at a1 a2 a3
        rcases evsOf_tick ha with e | e <;> rcases evsOf_tick hbq with e' | e' <;> rw [e, e'] at t0 <;> omega
theorem evsT_noTie {rt least : Int} (hr : 1 ≤ rt) {sl : Nat → List (Nat × Nat)} (hs : ∀ k, Apart (sl k)) : ∀ {k : Nat} {xs : List Th}, xs.Nodup → NoTie (evsT rt least sl k xs)
  | _, [], _ => List.Pairwise.nil
  | k, x :: xs, h => by
    obtain ⟨h1, h2⟩ := List.nodup_cons.1 h
    rw [evsT]
    refine List.pairwise_append.2 ⟨evsL_noTie hr x (hs k), evsT_noTie hr hs h2, fun a ha b hb ht => h1 ?_⟩
    obtain ⟨y, hy, j, hby⟩ := mem_evsT hb
    have e1 := evsL_thing ha
    have e2 := evsL_thing hby
    rw [← e1, ht.2.1, ht.2.2.1, ht.2.2.2, e2]
    exact hy
/-- Between two rounds of the inner loop of the sort by swaps: all but the event at k are in order up to i. -/
structure SwInv (i k : Nat) (m : List Ev) : Prop where
  lt : i < m.length
  ki : k ≤ i
  rest : ∀ a b (ha : a < m.length) (hb : b < m.length), a < b → b ≤ i → a ≠ k → b ≠ k → evLe m[a] m[b]
  past : ∀ b (hk : k < m.length) (hb : b < m.length), k < b → b ≤ i → evLe m[k] m[b]
/-- The first i are in order. -/
def UpTo (i : Nat) (m : List Ev) : Prop := ∀ a b (ha : a < m.length) (hb : b < m.length), a < b → b < i → evLe m[a] m[b]
theorem upTo_one (m : List Ev) : UpTo 1 m := fun a b _ _ h1 h2 => by omega
theorem upTo_all {m : List Ev} {i : Nat} (h : UpTo i m) (hi : m.length ≤ i) : m.Pairwise evLe := by
  rw [List.pairwise_iff_getElem]
  intro a b ha hb hab
  exact h a b ha hb hab (by omega)
theorem swInv_start {i : Nat} {m : List Ev} (h : UpTo i m) (hi : i < m.length) : SwInv i i m :=
  ⟨hi, Nat.le_refl i, fun a b ha hb h1 h2 _ h4 => h a b ha hb h1 (by omega), fun b _ _ h1 h2 => by omega⟩
theorem swInv_end {i k : Nat} {m : List Ev} (h : SwInv i k m) (hk : k = 0 ∨ ∃ (h1 : k < m.length) (h0 : k - 1 < m.length), ¬ evLt m[k] m[k - 1]) : UpTo (i + 1) m := by
  intro a b ha hb hab hbi
  by_cases e1 : a = k
  · subst e1
    exact h.past b ha hb hab (by omega)
  · by_cases e2 : b = k
    · subst e2
      rcases hk with hk | ⟨h1, h0, hk⟩
      · omega
      · by_cases e3 : a = b - 1
        · subst e3
          exact hk
        · exact evLt_ntrans hk (h.rest a (b - 1) ha h0 (by omega) (by omega) e1 (by omega))
    · exact h.rest a b ha hb hab (by omega) e1 e2
/-- The list with two neighbours swapped. -/
def swap (m : List Ev) (k : Nat) : List Ev := (m.set k (m.getD (k - 1) (0, 0, 0, 0, 0))).set (k - 1) (m.getD k (0, 0, 0, 0, 0))
theorem swap_len (m : List Ev) (k : Nat) : (swap m k).length = m.length := by simp [swap]
theorem swap_get {m : List Ev} {k : Nat} (h0 : 0 < k) (h : k < m.length) (j : Nat) (hj : j < (swap m k).length) : (swap m k)[j] = if j = k - 1 then m[k] else if j = k then m[k - 1] else m[j]'(by rw [swap_len] at hj; exact hj) := by
  simp only [swap, List.getElem_set, getD_at h, getD_at (show k - 1 < m.length by omega)]
  by_cases e : j = k - 1
  · rw [if_pos e.symm, if_pos e]
  · rw [if_neg (fun q => e q.symm), if_neg e]
    by_cases e2 : j = k
    · rw [if_pos e2.symm, if_pos e2]
    · rw [if_neg (fun q => e2 q.symm), if_neg e2]
theorem swap_perm {m : List Ev} {k : Nat} (h0 : 0 < k) (h : k < m.length) : (swap m k).Perm m := by
  obtain ⟨j, rfl⟩ : ∃ j, k = j + 1 := ⟨k - 1, by omega⟩
  have e : swap m (j + 1) = m.take j ++ m[j + 1] :: m[j] :: m.drop (j + 2) := by
    apply List.ext_getElem
    · rw [swap_len]; simp; omega
    · intro q h1 h2
      rw [swap_get h0 h]
      rw [List.getElem_append]
      by_cases c : q < j
      · rw [if_neg (by omega), if_neg (by omega), dif_pos (by simp; omega)]
        simp
      · rw [dif_neg (by simp; omega)]
        simp only [List.length_take, Nat.min_eq_left (show j ≤ m.length by omega)]
        by_cases c1 : q = j
        · subst c1; simp
        · by_cases c2 : q = j + 1
          · subst c2; simp
          · rw [if_neg (by omega), if_neg c2]
            obtain ⟨r, rfl⟩ : ∃ r, q = j + 2 + r := ⟨q - j - 2, by omega⟩
            simp [show j + 2 + r - j = r + 1 + 1 by omega]
  have e2 : m = m.take j ++ m[j] :: m[j + 1] :: m.drop (j + 2) := by
    conv => lhs; rw [← List.take_append_drop j m]
    rw [List.drop_eq_getElem_cons (show j < m.length by omega), List.drop_eq_getElem_cons h]
  rw [e]
  conv => rhs; rw [e2]
  exact (List.Perm.swap _ _ _).append_left _
theorem swInv_step {i k : Nat} {m : List Ev} (h : SwInv i k m) (h0 : 0 < k) (hk : k < m.length) (hk1 : k - 1 < m.length) (hlt : evLt m[k] m[k - 1]) : SwInv i (k - 1) (swap m k) := by
  have hl := swap_len m k
  refine ⟨by rw [hl]; exact h.lt, by have := h.ki; omega, ?_, ?_⟩
  · intro a b ha hb hab hbi h1 h2
    rw [swap_get h0 hk, swap_get h0 hk, if_neg h1, if_neg h2]
    rw [hl] at ha hb
    by_cases e1 : a = k
    · rw [if_pos e1, if_neg (by omega)]
      exact h.rest (k - 1) b hk1 hb (by omega) hbi (by omega) (by omega)
    · rw [if_neg e1]
      by_cases e2 : b = k
      · rw [if_pos e2]
        exact h.rest a (k - 1) ha hk1 (by omega) (by have := h.ki; omega) e1 (by omega)
      · rw [if_neg e2]
        exact h.rest a b ha hb hab hbi e1 e2
  · intro b _ hb hkb hbi
    rw [swap_get h0 hk, swap_get h0 hk, if_pos rfl, if_neg (by omega)]
    rw [hl] at hb
    by_cases e2 : b = k
    · rw [if_pos e2]
      exact evLt_asymm hlt
    · rw [if_neg e2]
      exact h.past b hk hb (by omega) hbi
/-- Does a number stand for something of a specification? -/
def there (S : Sp) (what div n : Int) : Bool :=
  if what = 1 then decide (0 ≤ div ∧ div < S.ds.length) else if what = 2 then decide (0 ≤ n ∧ n < S.ss.length) else if what = 3 then decide (0 ≤ n ∧ n < S.cs.length) else true
/-- Is it a key of a division? -/
def keyIn (S : Sp) (div n : Int) : Bool := match S.ds[div.toNat]? with
  | some d => decide (d.lo ≤ n ∧ n ≤ d.hi)
  | none => true
/-- The error of a thing of a scale. -/
def thE (S : Sp) (x : Th) : Int :=
  if x.1 < 1 ∨ 3 < x.1 ∨ (x.1 ≠ 1 ∧ x.2.1 ≠ 0) then 2 else if there S x.1 x.2.1 x.2.2 = false then 4 else if x.1 = 1 ∧ keyIn S x.2.1 x.2.2 = false then 7 else 0
def th0 : Th := (0, 0, 0)
def scF (S : Sp) (th : List Th) (i : Nat) : Int := if thE S (th.getD i th0) = 0 then (if th.getD i th0 ∈ th.take i then 8 else 0) else thE S (th.getD i th0)
/-- The error of a scale. -/
def scE (S : Sp) (rt : Int) (th : List Th) : Int :=
  if (checkP S).2 = 0 then (if rt < 1 ∨ 1000 < rt then 7 else if th.length = 0 then 2 else if 127 < th.length then 3 else firstErr (scF S th) th.length) else (checkP S).2
structure ScOk (S : Sp) (rt : Int) (th : List Th) : Prop where
  sp : (checkP S).2 = 0
  rt1 : 1 ≤ rt
  rt2 : rt ≤ 1000
  th1 : 0 < th.length
  th2 : th.length ≤ 127
  good : ∀ x ∈ th, thE S x = 0
  nodup : th.Nodup
theorem nodup_take {α : Type} {l : List α} (h : ∀ i (hi : i < l.length), l[i] ∉ l.take i) : l.Nodup := by
  rw [List.nodup_iff_pairwise_ne, List.pairwise_iff_getElem]
  intro i j hi hj hij he
  refine h j hj ?_
  rw [← he, List.mem_take_iff_getElem]
  exact ⟨i, by omega, rfl⟩
theorem scE_ok {S : Sp} {rt : Int} {th : List Th} (h : scE S rt th = 0) : ScOk S rt th := by
  unfold scE at h
  by_cases e0 : (checkP S).2 = 0
  · rw [if_pos e0] at h
    by_cases e1 : rt < 1 ∨ 1000 < rt
    · rw [if_pos e1] at h; cases h
    · rw [if_neg e1] at h
      by_cases e2 : th.length = 0
      · rw [if_pos e2] at h; cases h
      · rw [if_neg e2] at h
        by_cases e3 : 127 < th.length
        · rw [if_pos e3] at h; cases h
        · rw [if_neg e3] at h
          have hn := firstErr_none h
          have hx : ∀ i (hi : i < th.length), thE S th[i] = 0 ∧ th[i] ∉ th.take i := by
            intro i hi
            have := hn i hi
            unfold scF at this
            rw [getD_at hi] at this
            by_cases a : thE S th[i] = 0
            · rw [if_pos a] at this
              by_cases b : th[i] ∈ th.take i
              · rw [if_pos b] at this; cases this
              · exact ⟨a, b⟩
            · rw [if_neg a] at this
              exact absurd this a
          refine ⟨e0, by omega, by omega, by omega, by omega, ?_, nodup_take fun i hi => (hx i hi).2⟩
          intro x hm
          obtain ⟨i, hi, rfl⟩ := List.getElem_of_mem hm
          exact (hx i hi).1
  · rw [if_neg e0] at h
    exact absurd h e0
/-- What an event is about. -/
def thing (x : Ev) : Th := (x.2.1, x.2.2.1, x.2.2.2.1)
/-- The error of an event, by itself. -/
def evE (S : Sp) (x : Ev) : Int :=
  if x.2.1 < 1 ∨ 5 < x.2.1 ∨ (x.2.1 ≠ 1 ∧ x.2.2.1 ≠ 0) ∨ (x.2.1 = 5 ∧ x.2.2.2.2 ≠ 0) then 2
  else if there S x.2.1 x.2.2.1 x.2.2.2.1 = false then 4
  else if (x.2.1 = 1 ∧ keyIn S x.2.2.1 x.2.2.2.1 = false) ∨ (x.2.1 = 4 ∧ ¬ (0 ≤ x.2.2.2.1 ∧ x.2.2.2.1 ≤ 3)) ∨ (x.2.1 = 5 ∧ ¬ (0 ≤ x.2.2.2.1 ∧ x.2.2.2.1 ≤ 9999)) ∨ ¬ (0 ≤ x.2.2.2.2 ∧ x.2.2.2.2 ≤ if x.2.1 = 4 then 127 else 1) then 7
  else 0
def ev0 : Ev := (0, 0, 0, 0, 0)
def onS (f : Th → Int) (x : Ev) : Th → Int := fun t => if x.2.1 ≠ 5 ∧ thing x = t then x.2.2.2.2 else f t
/-- The value of a thing behind some events. -/
def onV (l : List Ev) : Th → Int := l.foldl onS fun _ => 0
theorem onV_snoc (l : List Ev) (x : Ev) : onV (l ++ [x]) = onS (onV l) x := by unfold onV; rw [List.foldl_append]; rfl
theorem onV_take {l : List Ev} {i : Nat} (h : i < l.length) : onV (l.take (i + 1)) = onS (onV (l.take i)) l[i] := by rw [List.take_succ_eq_append_getElem h, onV_snoc]
/-- The tick of the event ahead of the one at i. -/
def tickB (l : List Ev) (i : Nat) : Int := if i = 0 then 0 else (l.getD (i - 1) ev0).1
def recF (S : Sp) (l : List Ev) (i : Nat) : Int :=
  if (l.getD i ev0).1 < tickB l i ∨ 100000000 < (l.getD i ev0).1 then 7 else if evE S (l.getD i ev0) = 0 then (if (l.getD i ev0).2.1 ≠ 5 ∧ onV (l.take i) (thing (l.getD i ev0)) = (l.getD i ev0).2.2.2.2 then 8 else 0) else evE S (l.getD i ev0)
/-- What Check says of a recording. -/
def recE (S : Sp) (l : List Ev) : Int × Int :=
  if (checkP S).2 = 0 then (if 20000 < l.length then (0, 3) else match fst0 (recF S l) l.length with
    | some i => ((i : Int), recF S l i)
    | none => (0, 0)) else (0, (checkP S).2)
/-- How many events lie at a tick or ahead of it. -/
def upN (l : List Ev) (t : Int) : Nat := (l.takeWhile fun x => decide (x.1 ≤ t)).length
/-- The tick of the last event that moves a track. -/
def lastT (l : List Ev) : Int := match (l.filter fun x => decide (x.2.1 ≤ 3)).getLast? with
  | some x => x.1
  | none => -1
theorem lastT_snoc (l : List Ev) (x : Ev) : lastT (l ++ [x]) = if x.2.1 ≤ 3 then x.1 else lastT l := by
  unfold lastT
  rw [List.filter_append]
  by_cases h : x.2.1 ≤ 3
  · rw [if_pos h, List.filter_cons_of_pos (by simpa using h), List.filter_nil, List.getLast?_concat]
  · rw [if_neg h, List.filter_cons_of_neg (by simpa using h), List.filter_nil, List.append_nil]
/-- Which tracks have holes for what is on. -/
def onB (f : Th → Int) (th : List Th) (t : Nat) : Bool := decide (t = 0 ∨ (1 ≤ t ∧ t ≤ th.length ∧ f (th.getD (t - 1) th0) = 1))
/-- A row of what is on. -/
def onRow (f : Th → Int) (th : List Th) : List Int := told (onB f th) (th.length + 1)
/-- What Make returns. -/
def makeP (S : Sp) (l : List Ev) (rt : Int) (th : List Th) : Ro × Int :=
  if (recE S l).2 = 0 then (if scE S rt th = 0 then
    (if ∃ x ∈ l, x.2.1 ≤ 3 ∧ thing x ∉ th then (⟨0, []⟩, 4) else if lastT l < 0 then (⟨th.length + 1, []⟩, 0)
      else if 20000 < (lastT l + rt - 1) / rt + 1 then (⟨0, []⟩, 3)
      else (⟨th.length + 1, (List.range ((lastT l + rt - 1) / rt + 1).toNat).map fun (i : Nat) => onRow (onV (l.take (upN l ((i : Int) * rt)))) th⟩, 0))
    else (⟨0, []⟩, scE S rt th)) else (⟨0, []⟩, (recE S l).2)
theorem rowErr_num {tr : Int} {g : Bool} {l : List Int} {k : Nat} (h : firstErr (numErr tr l) k = 0) (hk : k < l.length) {e : Int} (he : numErr tr l k = e) (h0 : e ≠ 0) : rowErr tr g l = e := by
  have h1 : firstErr (numErr tr l) (k + 1) = e := by rw [firstErr_next h, he]
  have h2 := firstErr_at (f := numErr tr l) (k := k + 1) (by rw [h1]; exact h0) (n := l.length) (by omega)
  rw [h1] at h2
  unfold rowErr
  rw [h2, if_neg h0]
theorem rowErr_guide {tr : Int} {l : List Int} (h : firstErr (numErr tr l) l.length = 0) (hg : (0 : Int) ∉ l) : rowErr tr true l = 6 := by
  unfold rowErr
  rw [if_pos h, if_pos ⟨rfl, hg⟩]
theorem rowErr_good {tr : Int} {g : Bool} {l : List Int} (h : firstErr (numErr tr l) l.length = 0) (hg : g = true → (0 : Int) ∈ l) : rowErr tr g l = 0 := by
  unfold rowErr
  rw [if_pos h, if_neg]
  rintro ⟨a, b⟩
  exact b (hg a)
theorem rowErr_zero {tr : Int} {g : Bool} {l : List Int} (h : rowErr tr g l = 0) : firstErr (numErr tr l) l.length = 0 ∧ (g = true → (0 : Int) ∈ l) := by
  unfold rowErr at h
  by_cases e : firstErr (numErr tr l) l.length = 0
  · rw [if_pos e] at h
    refine ⟨e, fun hg => ?_⟩
    by_cases q : (0 : Int) ∈ l
    · exact q
    · rw [if_pos ⟨hg, q⟩] at h; cases h
  · rw [if_neg e] at h
    exact absurd h e
theorem rollErr_tr {R : Ro} {g : Bool} (h : R.tracks < 2 ∨ R.tracks > 128) : rollErr R g = 7 := by unfold rollErr; rw [if_pos h]
theorem rollErr_long {R : Ro} {g : Bool} (h : ¬ (R.tracks < 2 ∨ R.tracks > 128)) (hl : R.rows.length > 20000) : rollErr R g = 3 := by unfold rollErr; rw [if_neg h, if_pos hl]
theorem rollErr_row {R : Ro} {g : Bool} (h : ¬ (R.tracks < 2 ∨ R.tracks > 128)) (hl : R.rows.length ≤ 20000) {i : Nat} (hi : i < R.rows.length) (hp : ∀ j (hj : j < R.rows.length), j < i → rowErr R.tracks g R.rows[j] = 0) {e : Int} (he : rowErr R.tracks g R.rows[i] = e) (h0 : e ≠ 0) : rollErr R g = e := by
  unfold rollErr
  rw [if_neg h, if_neg (by omega)]
  have hz : firstErr (fun i => rowErr R.tracks g (R.rows.getD i [])) i = 0 := firstErr_zero fun j hj => by
    show rowErr R.tracks g (R.rows.getD j []) = 0
    rw [getD_at (show j < R.rows.length by omega)]
    exact hp j (by omega) hj
  have h1 : firstErr (fun i => rowErr R.tracks g (R.rows.getD i [])) (i + 1) = e := by
    rw [firstErr_next hz, getD_at hi, he]
  have h2 := firstErr_at (f := fun i => rowErr R.tracks g (R.rows.getD i [])) (k := i + 1) (by rw [h1]; exact h0) (n := R.rows.length) (by omega)
  rw [h2, h1]
theorem rollErr_good {R : Ro} {g : Bool} (h : ¬ (R.tracks < 2 ∨ R.tracks > 128)) (hl : R.rows.length ≤ 20000) (hp : ∀ j (hj : j < R.rows.length), rowErr R.tracks g R.rows[j] = 0) : rollErr R g = 0 := by
  unfold rollErr
  rw [if_neg h, if_neg (by omega)]
  exact firstErr_zero fun j hj => by
    show rowErr R.tracks g (R.rows.getD j []) = 0
    rw [getD_at hj]
    exact hp j hj
structure RollGood (R : Ro) (g : Bool) : Prop where
  lo : 2 ≤ R.tracks
  hi : R.tracks ≤ 128
  len : R.rows.length ≤ 20000
  row : ∀ j (hj : j < R.rows.length), rowErr R.tracks g R.rows[j] = 0
theorem rollGood {R : Ro} {g : Bool} (h : rollErr R g = 0) : RollGood R g := by
  unfold rollErr at h
  by_cases e : R.tracks < 2 ∨ R.tracks > 128
  · rw [if_pos e] at h; cases h
  · rw [if_neg e] at h
    by_cases e2 : R.rows.length > 20000
    · rw [if_pos e2] at h; cases h
    · rw [if_neg e2] at h
      have := firstErr_none h
      exact ⟨by omega, by omega, by omega, fun j hj => by have := this j hj; rwa [getD_at hj] at this⟩
theorem numErr_lo {tr : Int} {l : List Int} {k : Nat} (hk : k < l.length) (h : l[k] < 0 ∨ l[k] ≥ tr) : numErr tr l k = 7 := by unfold numErr; rw [getD_at hk, if_pos h]
theorem numErr_twice {tr : Int} {l : List Int} {k : Nat} (hk : k < l.length) (h : ¬ (l[k] < 0 ∨ l[k] ≥ tr)) (h0 : 0 < k) (h1 : k - 1 < l.length) (hle : l[k] ≤ l[k - 1]) : numErr tr l k = 8 := by
  unfold numErr
  rw [getD_at hk, getD_at h1, if_neg h, if_pos ⟨h0, hle⟩]
theorem numErr_good {tr : Int} {l : List Int} {k : Nat} (hk : k < l.length) (h : ¬ (l[k] < 0 ∨ l[k] ≥ tr)) (h1 : k - 1 < l.length) (hle : 0 < k → l[k - 1] < l[k]) : numErr tr l k = 0 := by
  unfold numErr
  rw [getD_at hk, getD_at h1, if_neg h, if_neg]
  rintro ⟨a, b⟩
  have := hle a
  omega
theorem upN_is {l : List Ev} {t : Int} {n : Nat} (hn : n ≤ l.length) (h1 : ∀ j (hj : j < l.length), j < n → l[j].1 ≤ t) (h2 : ∀ hn' : n < l.length, ¬ l[n].1 ≤ t) : upN l t = n := by
  unfold upN
  have e : l.takeWhile (fun x => decide (x.1 ≤ t)) = l.take n := by
    rw [← List.take_append_drop n l, List.takeWhile_append_of_pos]
    · have : (l.drop n).takeWhile (fun x => decide (x.1 ≤ t)) = [] := by
        by_cases hl : n < l.length
        · rw [List.drop_eq_getElem_cons hl, List.takeWhile_cons_of_neg (by simpa using h2 hl)]
        · rw [List.drop_of_length_le (by omega)]; rfl
      rw [this, List.append_nil, List.take_append_drop]
    · intro x hx
      obtain ⟨j, hj, rfl⟩ := List.getElem_of_mem hx
      rw [List.length_take] at hj
      rw [List.getElem_take]
      exact decide_eq_true (h1 j (by omega) (by omega))
  rw [e, List.length_take]
  omega
theorem told_congr {f g : Nat → Bool} : ∀ {k : Nat}, (∀ t, t < k → f t = g t) → told f k = told g k
  | 0, _ => rfl
  | k + 1, h => by rw [told, told, told_congr (fun t ht => h t (by omega)), h k (by omega)]
theorem nodup_inj {l : List Th} (h : l.Nodup) {i j : Nat} (hi : i < l.length) (hj : j < l.length) (e : l[i] = l[j]) : i = j := by
  rw [List.nodup_iff_pairwise_ne, List.pairwise_iff_getElem] at h
  rcases Nat.lt_trichotomy i j with q | q | q
  · exact absurd e (h i j hi hj q)
  · exact q
  · exact absurd e.symm (h j i hj hi q)
/-- A row of holes for what is on. -/
def OnQ (q : Rw) (f : Th → Int) (th : List Th) : Prop := RwOk q ∧ ∀ t, t < 128 → hole q t = onB f th t
theorem onQ_told {q : Rw} {f : Th → Int} {th : List Th} (h : OnQ q f th) (hl : th.length ≤ 127) : told (hole q) (th.length + 1) = onRow f th :=
  told_congr fun t ht => h.2 t (by omega)
theorem onQ_first (th : List Th) : OnQ (1, 0) (fun _ => 0) th := by
  refine ⟨⟨by decide, by decide⟩, fun t ht => ?_⟩
  unfold onB hole
  by_cases h0 : t = 0
  · subst h0; simp
  · rw [decide_eq_false (fun q => by rcases q with q | ⟨_, _, q⟩ <;> simp_all)]
    split
    · rw [show (1 : Nat) = 2 ^ 0 from rfl, Nat.testBit_two_pow]
      exact decide_eq_false (fun e => h0 e.symm)
    · exact Nat.zero_testBit _
/-- An event of a thing of the scale. -/
theorem onQ_put {q : Rw} {f : Th → Int} {th : List Th} (h : OnQ q f th) (hn : th.Nodup) (hl : th.length ≤ 127) {k : Nat} (hk : k < th.length) {x : Ev} (hx : th[k] = thing x) (h5 : x.2.1 ≠ 5) : OnQ (putR q (k + 1) (decide (x.2.2.2.2 = 1))) (onS f x) th := by
  refine ⟨putR_ok h.1 (by omega), fun t ht => ?_⟩
  rw [putR_hole (by omega) ht]
  by_cases e : t = k + 1
  · subst e
    rw [if_pos rfl]
    unfold onB onS
    rw [show k + 1 - 1 = k by omega, getD_at hk]
    refine decide_eq_decide.2 ⟨fun q => .inr ⟨by omega, by omega, by rw [if_pos ⟨h5, hx.symm⟩]; exact q⟩, fun q => ?_⟩
    rcases q with q | ⟨_, _, q⟩
    · omega
    · rwa [if_pos ⟨h5, hx.symm⟩] at q
  · rw [if_neg e, h.2 t ht]
    unfold onB
    refine decide_eq_decide.2 ?_
    have key : 1 ≤ t → t ≤ th.length → onS f x (th.getD (t - 1) th0) = f (th.getD (t - 1) th0) := by
      intro h1 h2
      unfold onS
      rw [if_neg]
      rintro ⟨_, e2⟩
      rw [getD_at (show t - 1 < th.length by omega), ← hx] at e2
      have := nodup_inj hn hk (show t - 1 < th.length by omega) e2
      omega
    constructor
    · rintro (a | ⟨a, b, c⟩)
      · exact .inl a
      · exact .inr ⟨a, b, by rw [key a b]; exact c⟩
    · rintro (a | ⟨a, b, c⟩)
      · exact .inl a
      · exact .inr ⟨a, b, by rw [← key a b]; exact c⟩
theorem onQ_skip {q : Rw} {f : Th → Int} {th : List Th} (h : OnQ q f th) {x : Ev} (hx : thing x ∉ th) : OnQ q (onS f x) th := by
  refine ⟨h.1, fun t ht => ?_⟩
  rw [h.2 t ht]
  unfold onB
  refine decide_eq_decide.2 ?_
  have key : 1 ≤ t → t ≤ th.length → onS f x (th.getD (t - 1) th0) = f (th.getD (t - 1) th0) := by
    intro h1 h2
    unfold onS
    rw [if_neg]
    rintro ⟨_, e⟩
    rw [getD_at (show t - 1 < th.length by omega)] at e
    exact hx (by rw [e]; exact List.getElem_mem _)
  constructor
  · rintro (a | ⟨a, b, c⟩)
    · exact .inl a
    · exact .inr ⟨a, b, by rw [key a b]; exact c⟩
  · rintro (a | ⟨a, b, c⟩)
    · exact .inl a
    · exact .inr ⟨a, b, by rw [← key a b]; exact c⟩
theorem dv_small {S : Sp} (h : (checkP S).2 = 0) {d : Dv} (hd : d ∈ S.ds) : 0 ≤ d.lo ∧ d.hi ≤ 127 := by
  unfold checkP at h
  split at h
  · cases h
  · cases e : fst0 (errD S) S.ds.length with
    | some i =>
      rw [e] at h
      simp only at h
      exact absurd h (fst0_is e).2.1
    | none =>
      obtain ⟨k, hk, rfl⟩ := List.getElem_of_mem hd
      have h1 := fst0_none.1 e k hk
      unfold errD at h1
      rw [List.getElem?_eq_getElem hk] at h1
      simp only at h1
      unfold nmE at h1
      split at h1
      · cases h1
      · split at h1
        · cases h1
        · unfold dvE at h1
          split at h1
          · omega
          · cases h1
/-- The numbers of a thing without error. -/
theorem th_small {S : Sp} (hd : S.ds.length ≤ 1000) (hs : S.ss.length ≤ 1000) (hc : S.cs.length ≤ 1000) (h : (checkP S).2 = 0) {x : Th} (hx : thE S x = 0) : 1 ≤ x.1 ∧ x.1 ≤ 3 ∧ 0 ≤ x.2.1 ∧ x.2.1 ≤ 1000 ∧ 0 ≤ x.2.2 ∧ x.2.2 ≤ 1000 := by
  obtain ⟨a, b, c⟩ := x
  unfold thE at hx
  simp only at hx ⊢
  split at hx
  · cases hx
  · rename_i h1
    split at hx
    · cases hx
    · rename_i h2
      split at hx
      · cases hx
      · rename_i h3
        have ht : there S a b c = true := by simpa using h2
        unfold there at ht
        by_cases a1 : a = 1
        · subst a1
          rw [if_pos rfl, decide_eq_true_iff] at ht
          have hk : keyIn S b c = true := by simpa using h3
          unfold keyIn at hk
          have hb : b.toNat < S.ds.length := by omega
          rw [List.getElem?_eq_getElem hb] at hk
          simp only [decide_eq_true_iff] at hk
          have := dv_small h (List.getElem_mem hb)
          omega
        · rw [if_neg a1] at ht
          by_cases a2 : a = 2
          · rw [if_pos a2, decide_eq_true_iff] at ht
            omega
          · rw [if_neg a2, if_pos (by omega), decide_eq_true_iff] at ht
            omega
theorem evsT_small {rt least : Int} {sl : Nat → List (Nat × Nat)} {P : Th → Prop} {xs : List Th} (h : ∀ x ∈ xs, P x) {k : Nat} {e : Ev} (he : e ∈ evsT rt least sl k xs) : P (thing e) := by
  obtain ⟨x, hx, j, hj⟩ := mem_evsT he
  have := evsL_thing hj
  rw [show thing e = x from this]
  exact h x hx
theorem evsT_congr {rt least : Int} {f g : Nat → List (Nat × Nat)} : ∀ {k : Nat} {xs : List Th}, (∀ j, k ≤ j → j < k + xs.length → f j = g j) → evsT rt least f k xs = evsT rt least g k xs
  | _, [], _ => rfl
  | k, x :: xs, h => by
    rw [evsT, evsT, h k (Nat.le_refl _) (by simp), evsT_congr (k := k + 1) fun j h1 h2 => h j (by omega) (by simp only [List.length_cons]; omega)]
theorem slotsP_congr {f g : Nat → Bool} {gap : Int} : ∀ {n : Nat}, (∀ i, i < n → f i = g i) → slotsP f gap n = slotsP g gap n
  | 0, _ => rfl
  | n + 1, h => by
    rw [slotsP, slotsP, h n (by omega), slotsP_congr (n := n) fun i hi => h i (by omega)]
/-- What Read collects. -/
def evsR (R : Ro) (rt least gap : Int) (th : List Th) : List Ev := evsT rt least (fun t => slotsR R t gap) 1 th
/-- What Read returns for it. -/
def RdP (E m : List Ev) (c : Int) : Prop := (20000 < E.length ∧ m = [] ∧ c = 3) ∨ (E.length ≤ 20000 ∧ m.Perm E ∧ m.Pairwise evLe ∧ c = 0)
theorem RdP.one {E m m' : List Ev} {c c' : Int} (hn : NoTie E) (h : RdP E m c) (h' : RdP E m' c') : m = m' ∧ c = c' := by
  rcases h with ⟨a, rfl, rfl⟩ | ⟨a, p, s, rfl⟩ <;> rcases h' with ⟨a', rfl, rfl⟩ | ⟨a', p', s', rfl⟩
  · exact ⟨rfl, rfl⟩
  · omega
  · omega
  · exact ⟨sorted_one (p.trans p'.symm) (noTie_perm hn p.symm) s s', rfl⟩
/-- The error of a call of Read, but for the length. -/
def rdErr (S : Sp) (R : Ro) (rt : Int) (th : List Th) (least gap : Int) : Int :=
  if rollErr R true = 0 then (if scE S rt th = 0 then (if R.tracks ≠ th.length + 1 then 2 else if least < 1 ∨ 100 < least ∨ gap < 0 ∨ 100 < gap then 7 else 0) else scE S rt th) else rollErr R true
/-- What Read returns. -/
def ReadP (S : Sp) (R : Ro) (rt : Int) (th : List Th) (least gap : Int) (m : List Ev) (c : Int) : Prop :=
  (rdErr S R rt th least gap ≠ 0 ∧ m = [] ∧ c = rdErr S R rt th least gap) ∨ (rdErr S R rt th least gap = 0 ∧ RdP (evsR R rt least gap th) m c)
theorem rdErr_zero {S : Sp} {R : Ro} {rt : Int} {th : List Th} {least gap : Int} (h : rdErr S R rt th least gap = 0) : rollErr R true = 0 ∧ scE S rt th = 0 ∧ R.tracks = th.length + 1 ∧ 1 ≤ least ∧ least ≤ 100 ∧ 0 ≤ gap ∧ gap ≤ 100 := by
  unfold rdErr at h
  by_cases e0 : rollErr R true = 0
  · rw [if_pos e0] at h
    by_cases e1 : scE S rt th = 0
    · rw [if_pos e1] at h
      by_cases e2 : R.tracks ≠ th.length + 1
      · rw [if_pos e2] at h; cases h
      · rw [if_neg e2] at h
        by_cases e3 : least < 1 ∨ 100 < least ∨ gap < 0 ∨ 100 < gap
        · rw [if_pos e3] at h; cases h
        · exact ⟨e0, e1, by omega, by omega, by omega, by omega, by omega⟩
    · rw [if_neg e1] at h
      exact absurd h e1
  · rw [if_neg e0] at h
    exact absurd h e0
theorem evsR_noTie {S : Sp} {R : Ro} {rt : Int} {th : List Th} {least gap : Int} (h : rdErr S R rt th least gap = 0) : NoTie (evsR R rt least gap th) := by
  obtain ⟨_, h1, _, _, _, h2, _⟩ := rdErr_zero h
  have k := scE_ok h1
  exact evsT_noTie k.rt1 (fun t => apart_slots h2) k.nodup
theorem ReadP.one {S : Sp} {R : Ro} {rt : Int} {th : List Th} {least gap : Int} {m m' : List Ev} {c c' : Int} (h : ReadP S R rt th least gap m c) (h' : ReadP S R rt th least gap m' c') : m = m' ∧ c = c' := by
  rcases h with ⟨a, rfl, rfl⟩ | ⟨a, h⟩ <;> rcases h' with ⟨a', rfl, rfl⟩ | ⟨a', h'⟩
  · exact ⟨rfl, rfl⟩
  · exact absurd a' a
  · exact absurd a a'
  · exact h.one (evsR_noTie a) h'
/-- Two rolls whose slots are alike are read alike. -/
theorem ReadP.alike {S : Sp} {R R' : Ro} {rt : Int} {th : List Th} {least gap : Int} {m m' : List Ev} {c c' : Int} (h : ReadP S R rt th least gap m c) (h' : ReadP S R' rt th least gap m' c') (he : rollErr R true = 0) (he' : rollErr R' true = 0) (ht : R.tracks = R'.tracks) (hs : ∀ t : Nat, 1 ≤ t → (t : Int) < R.tracks → slotsR R t gap = slotsR R' t gap) : m = m' ∧ c = c' := by
  have e1 : rdErr S R' rt th least gap = rdErr S R rt th least gap := by unfold rdErr; rw [he, he', ht]
  rcases h with ⟨a, rfl, rfl⟩ | ⟨a, h⟩ <;> rcases h' with ⟨a', rfl, rfl⟩ | ⟨a', h'⟩
  · exact ⟨rfl, e1.symm⟩
  · exact absurd (e1.symm.trans a') a
  · exact absurd (e1.trans a) a'
  · have e2 : evsR R' rt least gap th = evsR R rt least gap th := by
      obtain ⟨_, _, h3, _⟩ := rdErr_zero a
      exact evsT_congr fun j h1 h2 => (hs j h1 (by omega)).symm
    rw [e2] at h'
    exact h.one (evsR_noTie a) h'
/-- Rows without some of the holes. -/
structure BrH (qs : List Rw) (G : Nat → Nat → Bool) (qs' : List Rw) : Prop where
  len : qs'.length = qs.length
  ok : ∀ q ∈ qs', RwOk q
  at' : ∀ i (hi : i < qs.length) (hi' : i < qs'.length) t, t < 128 → hole qs'[i] t = (hole qs[i] t && !G i t)
theorem BrH.start {qs : List Rw} (h : ∀ q ∈ qs, RwOk q) : BrH qs (fun _ _ => false) qs := ⟨rfl, h, fun i hi _ t _ => by simp⟩
theorem BrH.to {qs qs' : List Rw} {G G' : Nat → Nat → Bool} (h : BrH qs G qs') (he : ∀ i t, i < qs.length → G i t = G' i t) : BrH qs G' qs' :=
  ⟨h.len, h.ok, fun i hi hi' t ht => by rw [h.at' i hi hi' t ht, he i t hi]⟩
theorem BrH.put {qs qs' : List Rw} {G : Nat → Nat → Bool} (h : BrH qs G qs') {r k : Nat} (hr : r < qs'.length) (hk : k < 128) : BrH qs (fun i t => G i t || decide (i = r ∧ t = k)) (qs'.set r (putR qs'[r] k false)) := by
  have hok := h.ok _ (List.getElem_mem hr)
  refine ⟨by rw [List.length_set, h.len], fun q hq => ?_, fun i hi hi' t ht => ?_⟩
  · rcases List.mem_or_eq_of_mem_set hq with hq | rfl
    · exact h.ok q hq
    · exact putR_ok hok hk
  · have hi2 : i < qs'.length := by rw [List.length_set] at hi'; exact hi'
    rw [List.getElem_set]
    by_cases e : r = i
    · subst e
      rw [if_pos rfl, putR_hole hk ht]
      by_cases e2 : t = k
      · subst e2; simp
      · rw [if_neg e2, h.at' r hi hi2 t ht, decide_eq_false (by omega : ¬ (r = r ∧ t = k)), Bool.or_false]
    · rw [if_neg e, h.at' i hi hi2 t ht, decide_eq_false (by omega : ¬ (i = r ∧ t = k)), Bool.or_false]
variable (sl : Nat → List (Nat × Nat)) (m w : Nat)
/-- The tracks below k are bridged. -/
def gK (k i t : Nat) : Bool := decide (1 ≤ t ∧ t < k) && brk (sl t) m w i
def gP (k : Nat) (pre : List (Nat × Nat)) (i t : Nat) : Bool := gK sl m w k i t || (decide (t = k) && brk pre m w i)
def gJ (k : Nat) (pre : List (Nat × Nat)) (s : Nat × Nat) (j i t : Nat) : Bool := gP sl m w k pre i t || (decide (t = k) && brkJ m w s j i)
def gI (k : Nat) (pre : List (Nat × Nat)) (s : Nat × Nat) (j c i t : Nat) : Bool := gJ sl m w k pre s j i t || (decide (t = k) && decide (s.1 + j * (m + w) + m ≤ i ∧ i < s.1 + j * (m + w) + m + c))
variable {sl m w} {qs qs' : List Rw} {k j c : Nat} {pre : List (Nat × Nat)} {s : Nat × Nat}
theorem BrH.k1 (h : BrH qs (fun _ _ => false) qs') : BrH qs (gK sl m w 1) qs' := h.to fun i t _ => by rw [gK, decide_eq_false (by omega), Bool.false_and]
theorem BrH.p0 (h : BrH qs (gK sl m w k) qs') : BrH qs (gP sl m w k []) qs' := h.to fun i t _ => by rw [gP, brk_nil, Bool.and_false, Bool.or_false]
theorem BrH.j0 (h : BrH qs (gP sl m w k pre) qs') : BrH qs (gJ sl m w k pre s 0) qs' := h.to fun i t _ => by rw [gJ, brkJ_zero, Bool.and_false, Bool.or_false]
theorem BrH.i0 (h : BrH qs (gJ sl m w k pre s j) qs') : BrH qs (gI sl m w k pre s j 0) qs' := h.to fun i t _ => by rw [gI, decide_eq_false (p := s.1 + j * (m + w) + m ≤ i ∧ i < s.1 + j * (m + w) + m + 0) (by omega), Bool.and_false, Bool.or_false]
theorem BrH.i1 {r : Nat} (h : BrH qs (gI sl m w k pre s j c) qs') (hr : r < qs'.length) (hrr : r = s.1 + j * (m + w) + m + c) (hk : k < 128) : BrH qs (gI sl m w k pre s j (c + 1)) (qs'.set r (putR qs'[r] k false)) := by
  refine (h.put hr hk).to fun i t _ => ?_
  rw [gI, gI, Bool.or_assoc]
  congr 1
  by_cases e : t = k
  · subst e
    rw [decide_eq_true rfl, Bool.true_and, Bool.true_and, ← Bool.decide_or]
    exact decide_eq_decide.2 (by omega)
  · rw [decide_eq_false e, Bool.false_and, Bool.false_and, decide_eq_false (by omega), Bool.or_false]
theorem BrH.j1 (hw : 0 < w) (h : BrH qs (gI sl m w k pre s j w) qs') (hs : s.1 + j * (m + w) + m + w ≤ s.2) : BrH qs (gJ sl m w k pre s (j + 1)) qs' := by
  refine h.to fun i t _ => ?_
  rw [gI, gJ, gJ, brkJ_next hw hs, Bool.or_assoc]
  congr 1
  cases decide (t = k) <;> simp
theorem BrH.p1 (h : BrH qs (gJ sl m w k pre s j) qs') (hs : s.1 ≤ s.2) (h1 : j = 0 ∨ s.1 + (j - 1) * (m + w) + m + w ≤ s.2) (h2 : ¬ s.1 + j * (m + w) + m + w ≤ s.2) : BrH qs (gP sl m w k (pre ++ [s])) qs' := by
  refine h.to fun i t _ => ?_
  rw [gJ, gP, gP, brkJ_end hs h1 h2, brk_snoc, Bool.or_assoc]
  congr 1
  cases decide (t = k) <;> simp
theorem BrH.kn (hk : 1 ≤ k) (h : BrH qs (gP sl m w k (sl k)) qs') : BrH qs (gK sl m w (k + 1)) qs' := by
  refine h.to fun i t _ => ?_
  rw [gP, gK, gK]
  by_cases e : t = k
  · subst e
    rw [decide_eq_false (by omega : ¬ (1 ≤ t ∧ t < t)), decide_eq_true rfl, decide_eq_true (by omega : 1 ≤ t ∧ t < t + 1)]
    simp
  · rw [decide_eq_false e, Bool.false_and, Bool.or_false]
    congr 1
    exact decide_eq_decide.2 (by omega)
theorem told_same {f g : Nat → Bool} : ∀ {k : Nat}, (∀ t, t < k → f t = g t) → told f k = told g k
  | 0, _ => rfl
  | k + 1, h => by rw [told, told, told_same (k := k) fun t ht => h t (by omega), h k (by omega)]
/-- The slots of the tracks of a roll. -/
def slR (R : Ro) (t : Nat) : List (Nat × Nat) := slotsR R t 0
/-- The holes of a roll whose tracks below k are bridged. -/
def brF (R : Ro) (m w k i t : Nat) : Bool := trk R t i && !gK (slR R) m w k i t
def brRow (R : Ro) (m w k i : Nat) : List Int := told (brF R m w k i) R.tracks.toNat
def brRows (R : Ro) (m w k : Nat) : List (List Int) := (List.range R.rows.length).map (brRow R m w k)
theorem brRows_len (R : Ro) (m w k : Nat) : (brRows R m w k).length = R.rows.length := by simp [brRows]
theorem brRows_at (R : Ro) (m w k i : Nat) (h : i < (brRows R m w k).length) : (brRows R m w k)[i] = brRow R m w k i := by simp [brRows]
/-- The roll whose tracks below k are bridged. -/
def brRo (R : Ro) (m w k : Nat) : Ro := ⟨R.tracks, brRows R m w k⟩
theorem mem_brRow {R : Ro} {m w k i t : Nat} : (t : Int) ∈ brRow R m w k i ↔ t < R.tracks.toNat ∧ brF R m w k i t = true := by
  unfold brRow
  rw [mem_told]
  constructor
  · rintro ⟨u, h1, h2, h3⟩
    obtain rfl : t = u := by omega
    exact ⟨h1, h3⟩
  · rintro ⟨h1, h2⟩
    exact ⟨t, h1, rfl, h2⟩
/-- A row with other holes in a track. -/
def withF (l : List Int) (k : Nat) (b : Bool) (t : Nat) : Bool := (decide (t = k) && b) || (!decide (t = k) && decide ((t : Int) ∈ l))
theorem with_first {R : Ro} {m w i : Nat} (hi : i < R.rows.length) : told (withF R.rows[i] 0 (decide ((0 : Int) ∈ R.rows[i]))) R.tracks.toNat = brRow R m w 1 i := by
  unfold brRow
  refine told_same fun t _ => ?_
  unfold withF brF gK trk
  rw [getD_at hi, decide_eq_false (show ¬ (1 ≤ t ∧ t < 1) by omega), Bool.false_and, Bool.not_false, Bool.and_true]
  by_cases e : t = 0
  · subst e; simp
  · simp [e]
/-- The holes of a track of which bridges are taken. -/
def hasT (R : Ro) (m w k i : Nat) : Bool := trk R k i && !brk (slR R k) m w i
theorem with_next {R : Ro} {m w k i : Nat} (hk : 1 ≤ k) : told (withF (brRow R m w k i) k (hasT R m w k i)) R.tracks.toNat = brRow R m w (k + 1) i := by
  rw [brRow.eq_def R m w (k + 1) i]
  refine told_same fun t ht => ?_
  unfold withF
  by_cases e : t = k
  · subst e
    unfold hasT brF gK
    rw [decide_eq_true (show 1 ≤ t ∧ t < t + 1 by omega)]
    simp
  · have h1 : decide ((t : Int) ∈ brRow R m w k i) = brF R m w k i t := by
      rw [Bool.eq_iff_iff, decide_eq_true_iff, mem_brRow]
      exact ⟨fun h => h.2, fun h => ⟨ht, h⟩⟩
    rw [h1, decide_eq_false e]
    unfold brF gK
    have h2 : decide (1 ≤ t ∧ t < k) = decide (1 ≤ t ∧ t < k + 1) := decide_eq_decide.2 (by omega)
    rw [h2]
    simp
/-- The holes of a track while its bridges are taken: the slots ahead, and c rows of one. -/
def hasS (R : Ro) (m w k : Nat) (pre : List (Nat × Nat)) (i : Nat) : Bool := trk R k i && !brk pre m w i
def hasC (R : Ro) (m w k : Nat) (pre : List (Nat × Nat)) (s : Nat × Nat) (c i : Nat) : Bool := hasS R m w k pre i && !(decide (i < s.1 + c) && brkS m w s i)
variable {R : Ro} {m w k c i : Nat} {pre : List (Nat × Nat)} {s : Nat × Nat}
theorem hasS_nil : hasS R m w k [] i = trk R k i := by unfold hasS; rw [brk_nil]; simp
theorem hasC_zero : hasC R m w k pre s 0 i = hasS R m w k pre i := by
  unfold hasC brkS
  by_cases h : i < s.1 + 0
  · rw [decide_eq_false (show ¬ (s.1 ≤ i ∧ _) by omega)]; simp
  · rw [decide_eq_false h]; simp
theorem hasC_end (hs : s.1 ≤ s.2) (hc : c = s.2 - s.1 + 1) : hasC R m w k pre s c i = hasS R m w k (pre ++ [s]) i := by
  unfold hasC hasS
  rw [brk_snoc]
  have : (decide (i < s.1 + c) && brkS m w s i) = brkS m w s i := by
    unfold brkS
    rw [← Bool.decide_and]
    exact decide_eq_decide.2 (by omega)
  rw [this]
  simp [Bool.and_assoc]
theorem hasC_next (hc : c < s.2 - s.1 + 1) (hs : s.1 ≤ s.2) : hasC R m w k pre s (c + 1) i = if i = s.1 + c then (hasC R m w k pre s c i && !decide (m ≤ c % (m + w) ∧ c - c % (m + w) + m + w < s.2 - s.1 + 1)) else hasC R m w k pre s c i := by
  unfold hasC
  by_cases e : i = s.1 + c
  · rw [if_pos e, decide_eq_true (show i < s.1 + (c + 1) by omega), decide_eq_false (show ¬ i < s.1 + c by omega)]
    have h1 : brkS m w s i = decide (m ≤ c % (m + w) ∧ c - c % (m + w) + m + w < s.2 - s.1 + 1) := by
      unfold brkS
      rw [show i - s.1 = c by omega]
      have hd := Nat.div_add_mod c (m + w)
      rw [Nat.mul_comm] at hd
      exact decide_eq_decide.2 (by omega)
    rw [h1]
    simp
  · rw [if_neg e, decide_eq_decide.2 (show i < s.1 + (c + 1) ↔ i < s.1 + c by omega)]
/-- What Bridge returns. -/
def bridgeP (R : Ro) (most width : Int) : Ro × Int :=
  if rollErr R true = 0 then (if most < 1 ∨ 100 < most ∨ width < 1 ∨ 100 < width then (⟨0, []⟩, 7) else (brRo R most.toNat width.toNat R.tracks.toNat, 0)) else (⟨0, []⟩, rollErr R true)
theorem slots_cover {f : Nat → Bool} {gap : Int} : ∀ {n r : Nat}, r < n → f r = true → ∃ s ∈ slotsP f gap n, s.1 ≤ r ∧ r ≤ s.2
  | n + 1, r, h, hr => by
    cases hf : f n with
    | false =>
      have hne : r ≠ n := fun e => by rw [e, hf] at hr; cases hr
      rw [slotsP_skip hf]
      exact slots_cover (by omega) hr
    | true =>
      rcases List.eq_nil_or_concat (slotsP f gap n) with e | ⟨l, x, e⟩
      · rw [slotsP_first hf e]
        by_cases q : r = n
        · exact ⟨(n, n), by simp, by simp only; omega, by simp only; omega⟩
        · obtain ⟨s, hs, _⟩ := slots_cover (gap := gap) (n := n) (by omega) hr
          rw [e] at hs
          cases hs
      · rw [List.concat_eq_append] at e
        have hx := slotsP_in (f := f) (gap := gap) (n := n) x (by rw [e]; simp)
        have old : r < n → ∃ s ∈ l ++ [x], s.1 ≤ r ∧ r ≤ s.2 := fun h => by
          have := slots_cover (gap := gap) h hr
          rwa [e] at this
        by_cases hg : (n : Int) - x.2 - 1 ≤ gap
        · rw [slotsP_join hf e hg]
          by_cases q : r = n
          · exact ⟨(x.1, n), by simp, by simp only; omega, by simp only; omega⟩
          · obtain ⟨s, hs, h1, h2⟩ := old (by omega)
            rcases List.mem_append.1 hs with hs | hs
            · exact ⟨s, by simp [hs], h1, h2⟩
            · rw [List.mem_singleton] at hs
              subst hs
              exact ⟨(s.1, n), by simp, h1, by simp only; omega⟩
        · rw [slotsP_new hf e hg]
          by_cases q : r = n
          · exact ⟨(n, n), by simp, by simp only; omega, by simp only; omega⟩
          · obtain ⟨s, hs, h1, h2⟩ := old (by omega)
            exact ⟨s, List.mem_append.2 (.inl hs), h1, h2⟩
theorem slots0_full {f : Nat → Bool} : ∀ {n : Nat}, ∀ s ∈ slotsP f 0 n, ∀ r, s.1 ≤ r → r ≤ s.2 → f r = true
  | 0, s, h => by cases h
  | n + 1, s, h => by
    intro r h1 h2
    cases hf : f n with
    | false =>
      rw [slotsP_skip hf] at h
      exact slots0_full s h r h1 h2
    | true =>
      rcases List.eq_nil_or_concat (slotsP f 0 n) with e | ⟨l, x, e⟩
      · rw [slotsP_first hf e, List.mem_singleton] at h
        subst h
        simp only at h1 h2
        rw [show r = n by omega]
        exact hf
      · rw [List.concat_eq_append] at e
        have hx := slotsP_in (f := f) (gap := 0) (n := n) x (by rw [e]; simp)
        have ih : ∀ s ∈ l ++ [x], ∀ r, s.1 ≤ r → r ≤ s.2 → f r = true := by rw [← e]; exact slots0_full
        by_cases hg : (n : Int) - x.2 - 1 ≤ 0
        · rw [slotsP_join hf e hg] at h
          rcases List.mem_append.1 h with h | h
          · exact ih s (by simp [h]) r h1 h2
          · rw [List.mem_singleton] at h
            subst h
            simp only at h1 h2
            by_cases q : r = n
            · rw [q]; exact hf
            · exact ih x (by simp) r h1 (by omega)
        · rw [slotsP_new hf e hg] at h
          rcases List.mem_append.1 h with h | h
          · exact ih s h r h1 h2
          · rw [List.mem_singleton] at h
            subst h
            simp only at h1 h2
            rw [show r = n by omega]
            exact hf
theorem slots_last {f : Nat → Bool} {gap : Int} {n : Nat} (hf : f n = true) : ∃ l a, slotsP f gap (n + 1) = l ++ [(a, n)] := by
  rcases List.eq_nil_or_concat (slotsP f gap n) with e | ⟨l, x, e⟩
  · exact ⟨[], n, by rw [slotsP_first hf e]; rfl⟩
  · rw [List.concat_eq_append] at e
    by_cases hg : (n : Int) - x.2 - 1 ≤ gap
    · exact ⟨l, x.1, slotsP_join hf e hg⟩
    · exact ⟨l ++ [x], n, slotsP_new hf e hg⟩
/-- Two slots that touch are one. -/
theorem slots0_one {f : Nat → Bool} {n : Nat} {s s' : Nat × Nat} (h : s ∈ slotsP f 0 n) (h' : s' ∈ slotsP f 0 n) {r r' : Nat} (h1 : s.1 ≤ r) (h2 : r ≤ s.2) (h1' : s'.1 ≤ r') (h2' : r' ≤ s'.2) (hr : r' = r ∨ r' = r + 1 ∨ r = r' + 1) : s' = s := by
  obtain ⟨i, hi, rfl⟩ := List.getElem_of_mem h
  obtain ⟨j, hj, rfl⟩ := List.getElem_of_mem h'
  have hp := List.pairwise_iff_getElem.1 (slotsP_apart (f := f) (gap := 0) (n := n))
  rcases Nat.lt_trichotomy i j with e | e | e
  · have := hp i j hi hj e
    omega
  · subst e; rfl
  · have := hp j i hj hi e
    omega
theorem brk_slot {f : Nat → Bool} {n m w : Nat} {s : Nat × Nat} (h : s ∈ slotsP f 0 n) {r : Nat} (h1 : s.1 ≤ r) (h2 : r ≤ s.2) : brk (slotsP f 0 n) m w r = brkS m w s r := by
  rw [Bool.eq_iff_iff]
  unfold brk
  rw [List.any_eq_true]
  constructor
  · rintro ⟨s', h', hb⟩
    have hb' := hb
    unfold brkS at hb'
    rw [decide_eq_true_iff] at hb'
    rw [← slots0_one h h' h1 h2 hb'.1 hb'.2.1 (.inl rfl)]
    exact hb
  · intro hb
    exact ⟨s, h, hb⟩
/-- Holes without the bridges of their slots. -/
def cut (f : Nat → Bool) (n m w r : Nat) : Bool := f r && !brk (slotsP f 0 n) m w r
/-- Holes in a row lie in one slot. -/
theorem slots0_row {f : Nat → Bool} {n a : Nat} : ∀ d, a + d < n → (∀ r, a ≤ r → r ≤ a + d → f r = true) → ∃ s ∈ slotsP f 0 n, s.1 ≤ a ∧ a + d ≤ s.2
  | 0, h, hf => slots_cover (f := f) (gap := 0) (by omega) (hf a (by omega) (by omega))
  | d + 1, h, hf => by
    obtain ⟨s, hs, h1, h2⟩ := slots0_row (n := n) d (by omega) fun r k1 k2 => hf r k1 (by omega)
    obtain ⟨s', hs', h1', h2'⟩ := slots_cover (f := f) (gap := 0) (n := n) (r := a + (d + 1)) h (hf (a + (d + 1)) (by omega) (by omega))
    have e := slots0_one hs hs' (r := a + d) (r' := a + (d + 1)) (by omega) h2 h1' h2' (.inr (.inl (by omega)))
    subst e
    exact ⟨s', hs, h1, h2'⟩
/-- Behind the bridges no slot is longer than a part and a bridge. -/
theorem cut_short {f : Nat → Bool} {n m w a : Nat} (hw : 0 < w) (h : a + (m + w) < n) : ¬ ∀ r, a ≤ r → r ≤ a + (m + w) → cut f n m w r = true := by
  intro hc
  have hf : ∀ r, a ≤ r → r ≤ a + (m + w) → f r = true := fun r h1 h2 => by
    have := hc r h1 h2
    unfold cut at this
    rw [Bool.and_eq_true] at this
    exact this.1
  obtain ⟨s, hs, h1, h2⟩ := slots0_row (m + w) h hf
  have hp : 0 < m + w := by omega
  have hd := Nat.div_add_mod (a - s.1) (m + w)
  have hl := Nat.mod_lt (a - s.1) hp
  rw [Nat.mul_comm] at hd
  have key : ∃ r, a ≤ r ∧ r ≤ a + (m + w) ∧ brkS m w s r = true := by
    by_cases hr : m ≤ (a - s.1) % (m + w)
    · refine ⟨a, by omega, by omega, decide_eq_true ⟨h1, by omega, hr, by omega⟩⟩
    · refine ⟨a + (m - (a - s.1) % (m + w)), by omega, by omega, ?_⟩
      have e : a + (m - (a - s.1) % (m + w)) - s.1 = m + (a - s.1) / (m + w) * (m + w) := by omega
      have e1 : (a + (m - (a - s.1) % (m + w)) - s.1) / (m + w) = (a - s.1) / (m + w) := by
        rw [e, Nat.add_mul_div_right _ _ hp, Nat.div_eq_of_lt (by omega), Nat.zero_add]
      have e2 : (a + (m - (a - s.1) % (m + w)) - s.1) % (m + w) = m := by
        rw [e, Nat.add_mul_mod_self_right, Nat.mod_eq_of_lt (by omega)]
      exact decide_eq_true ⟨by omega, by omega, by rw [e2]; exact Nat.le_refl _, by rw [e1]; omega⟩
  obtain ⟨r, k1, k2, k3⟩ := key
  have := hc r k1 k2
  unfold cut at this
  rw [brk_slot hs (by omega) (by omega), k3] at this
  simp at this
/-- A bridge's row: the rows beside it have holes, too. -/
theorem brk_mid {f : Nat → Bool} {n m w r : Nat} (hm : 0 < m) (h : brk (slotsP f 0 n) m w r = true) : 1 ≤ r ∧ r + 1 < n ∧ f (r - 1) = true ∧ f r = true ∧ f (r + 1) = true := by
  unfold brk at h
  rw [List.any_eq_true] at h
  obtain ⟨s, hs, hb⟩ := h
  unfold brkS at hb
  rw [decide_eq_true_iff] at hb
  obtain ⟨h1, h2, h3, h4⟩ := hb
  have hin := slotsP_in (f := f) (gap := 0) s hs
  have hp : 0 < m + w := Nat.add_pos_left hm w
  have hd := Nat.div_add_mod (r - s.1) (m + w)
  have hl := Nat.mod_lt (r - s.1) hp
  rw [Nat.mul_comm] at hd
  have hfull := slots0_full s hs
  have hr1 : m ≤ r - s.1 := by omega
  refine ⟨by omega, by omega, hfull (r - 1) (by omega) (by omega), hfull r h1 h2, hfull (r + 1) (by omega) (by omega)⟩
/-- So many bridge rows behind each other, and no more. -/
theorem brk_wide {f : Nat → Bool} {n m w a d : Nat} (hm : 0 < m) (h : a + d < n) (hb : ∀ r, a ≤ r → r ≤ a + d → brk (slotsP f 0 n) m w r = true) : d < w := by
  obtain ⟨s, hs, h1, h2⟩ := slots0_row d h fun r k1 k2 => (brk_mid hm (hb r k1 k2)).2.2.2.1
  have hp : 0 < m + w := Nat.add_pos_left hm w
  have hd := Nat.div_add_mod (a - s.1) (m + w)
  have hl := Nat.mod_lt (a - s.1) hp
  have ha := hb a (by omega) (by omega)
  rw [brk_slot hs (by omega) (by omega)] at ha
  unfold brkS at ha
  rw [decide_eq_true_iff] at ha
  by_cases hw : d < w
  · exact hw
  · have k := hb (a + (m + w - (a - s.1) % (m + w))) (by omega) (by omega)
    rw [brk_slot hs (by omega) (by omega)] at k
    unfold brkS at k
    rw [decide_eq_true_iff] at k
    have e : a + (m + w - (a - s.1) % (m + w)) - s.1 = (m + w) * ((a - s.1) / (m + w) + 1) := by
      rw [Nat.mul_add, Nat.mul_one]
      omega
    have e2 := k.2.2.1
    rw [e, Nat.mul_mod_right] at e2
    omega
/-- What both walks over the rows have found ahead of row i. -/
def CutSim (f : Nat → Bool) (gap : Int) (n m w i : Nat) : Prop :=
  (slotsP f gap i = [] ∧ slotsP (cut f n m w) gap i = []) ∨ ∃ l a b b', slotsP f gap i = l ++ [(a, b)] ∧ slotsP (cut f n m w) gap i = l ++ [(a, b')] ∧ b' ≤ b ∧ b < i ∧ (b' = b ∨ (b + 1 = i ∧ ∀ r, b' < r → r ≤ b → brk (slotsP f 0 n) m w r = true))
theorem cut_sim {f : Nat → Bool} {gap : Int} {n m w : Nat} (hm : 0 < m) (hg : (w : Int) ≤ gap) : ∀ i, i ≤ n → CutSim f gap n m w i
  | 0, _ => .inl ⟨rfl, rfl⟩
  | i + 1, hi => by
    have ih := cut_sim (f := f) (n := n) hm hg i (by omega)
    cases hf : f i with
    | false =>
      have hc : cut f n m w i = false := by unfold cut; rw [hf]; rfl
      unfold CutSim
      rw [slotsP_skip hf, slotsP_skip hc]
      rcases ih with h | ⟨l, a, b, b', e1, e2, h1, h2, h3⟩
      · exact .inl h
      · rcases h3 with h3 | ⟨h3, h4⟩
        · exact .inr ⟨l, a, b, b', e1, e2, h1, by omega, .inl h3⟩
        · by_cases q : b' = b
          · exact .inr ⟨l, a, b, b', e1, e2, h1, by omega, .inl q⟩
          · have := (brk_mid hm (h4 b (by omega) (Nat.le_refl _))).2.2.2.2
            rw [h3, hf] at this
            cases this
    | true =>
      cases hb : brk (slotsP f 0 n) m w i with
      | false =>
        have hc : cut f n m w i = true := by unfold cut; rw [hf, hb]; rfl
        rcases ih with ⟨e1, e2⟩ | ⟨l, a, b, b', e1, e2, h1, h2, h3⟩
        · exact .inr ⟨[], i, i, i, by rw [slotsP_first hf e1]; rfl, by rw [slotsP_first hc e2]; rfl, Nat.le_refl _, by omega, .inl rfl⟩
        · by_cases q : b' = b
          · subst q
            by_cases g : (i : Int) - b' - 1 ≤ gap
            · exact .inr ⟨l, a, i, i, slotsP_join hf e1 g, slotsP_join hc e2 g, Nat.le_refl _, by omega, .inl rfl⟩
            · exact .inr ⟨l ++ [(a, b')], i, i, i, slotsP_new hf e1 g, slotsP_new hc e2 g, Nat.le_refl _, by omega, .inl rfl⟩
          · rcases h3 with h3 | ⟨h3, h4⟩
            · exact absurd h3 q
            · have hwd := brk_wide (a := b' + 1) (d := b - b' - 1) hm (by omega) fun r k1 k2 => h4 r (by omega) (by omega)
              exact .inr ⟨l, a, i, i, slotsP_join hf e1 (by simp only; omega), slotsP_join hc e2 (by simp only; omega), Nat.le_refl _, by omega, .inl rfl⟩
      | true =>
        have hc : cut f n m w i = false := by unfold cut; rw [hf, hb]; rfl
        obtain ⟨k1, k2, k3, _, _⟩ := brk_mid hm hb
        obtain ⟨l2, a2, e3⟩ := slots_last (f := f) (gap := gap) k3
        rw [show i - 1 + 1 = i by omega] at e3
        rcases ih with ⟨e1, e2⟩ | ⟨l, a, b, b', e1, e2, h1, h2, h3⟩
        · rw [e1] at e3
          simp at e3
        · rw [e1] at e3
          obtain ⟨_, e4⟩ := List.append_inj' e3 rfl
          have hbi : b = i - 1 := by simp only [List.cons.injEq, Prod.mk.injEq] at e4; exact e4.1.2
          refine .inr ⟨l, a, i, b', slotsP_join hf e1 (by simp only; omega), by rw [slotsP_skip hc]; exact e2, by omega, by omega, .inr ⟨rfl, fun r r1 r2 => ?_⟩⟩
          by_cases q : r = i
          · rw [q]; exact hb
          · rcases h3 with h3 | ⟨h3, h4⟩
            · omega
            · exact h4 r r1 (by omega)
/-- A gap that is not less than the bridges does not see them. -/
theorem cut_slots {f : Nat → Bool} {gap : Int} {n m w : Nat} (hm : 0 < m) (hg : (w : Int) ≤ gap) : slotsP (cut f n m w) gap n = slotsP f gap n := by
  rcases cut_sim (f := f) hm hg n (Nat.le_refl n) with ⟨e1, e2⟩ | ⟨l, a, b, b', e1, e2, h1, h2, h3⟩
  · rw [e1, e2]
  · by_cases q : b' = b
    · rw [e1, e2, q]
    · rcases h3 with h3 | ⟨h3, h4⟩
      · exact absurd h3 q
      · have := (brk_mid hm (h4 b (by omega) (Nat.le_refl _))).2.1
        omega
end Go.Proofs.YtppccacfdpkkgaaGreatDoor
