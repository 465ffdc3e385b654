/-
  PLAIN: rows moved by tracks; what is scanned; the shifts of a roll that is straightened.
-/
import Derived.Test.YtppccacfdpkkgaaDoorK4
import Derived.Lib.TrailingZeros
namespace Go.Proofs.YtppccacfdpkkgaaDoor
open Go.RowKit
/-- The first n tracks of a row that is moved. -/
def MvQ (x : Rw) (d : Int) (n : Nat) (q : Rw) : Prop := RwOk q ∧ ∀ u, u < 128 → hole q u = (decide (u < n) && hasB x ((u : Int) - d))
theorem mv_zero (x : Rw) (d : Int) : MvQ x d 0 rw0 := ⟨⟨by decide, by decide⟩, fun u _ => by unfold hole rw0; split <;> simp⟩
theorem mv_put {x : Rw} {d : Int} {n : Nat} {q : Rw} (h : MvQ x d n q) (hn : n < 128) {b : Bool} (hb : hasB x ((n : Int) - d) = b) : MvQ x d (n + 1) (putR q n b) :=
  ⟨putR_ok h.1 hn, fun u hu => by
    rw [putR_hole hn hu, h.2 u hu]
    by_cases e : u = n
    · subst e
      rw [if_pos rfl, decide_eq_true (show u < u + 1 by omega), Bool.true_and, hb]
    · rw [if_neg e]
      congr 1
      exact decide_eq_decide.2 (by omega)⟩
theorem hasB_mem {q : Rw} {l : List Int} (h : Holds q l) (hr : ∀ x ∈ l, 0 ≤ x ∧ x < 128) (t : Int) : hasB q t = decide (t ∈ l) := by
  unfold hasB
  by_cases e : 0 ≤ t ∧ t < 128
  · rw [decide_eq_true e, Bool.true_and, h.2 _ (by omega), show ((t.toNat : Nat) : Int) = t by omega]
  · rw [decide_eq_false e, Bool.false_and]
    exact (decide_eq_false fun q => e (hr t q)).symm
theorem scan_row {q y : Rw} {l : List Int} {T : Int} (h : Holds q l) (hr : ∀ x ∈ l, 0 ≤ x ∧ x < T) (hT : T ≤ 128) (ha : l.Pairwise (· < ·)) {d : Int} {n : Nat} (hd0 : 0 ≤ d) (hdn : d + T ≤ n) (hn : n ≤ 128) (hm : MvQ q d n y) : told (hole y) n = l.map (· + d) := by
  have hr2 : ∀ x ∈ l, 0 ≤ x ∧ x < 128 := fun x hx => by have := hr x hx; omega
  refine asc_same told_asc (by rw [List.pairwise_map]; exact ha.imp (by intro a b _; omega)) fun k => ?_
  rw [mem_told, List.mem_map]
  constructor
  · rintro ⟨t, ht, rfl, hf⟩
    rw [hm.2 t (by omega), hasB_mem h hr2, Bool.and_eq_true, decide_eq_true_iff, decide_eq_true_iff] at hf
    exact ⟨_, hf.2, by omega⟩
  · rintro ⟨x, hx, rfl⟩
    have := hr x hx
    refine ⟨(x + d).toNat, by omega, by omega, ?_⟩
    rw [hm.2 _ (by omega), hasB_mem h hr2, decide_eq_true (show (x + d).toNat < n by omega), Bool.true_and, show (((x + d).toNat : Nat) : Int) - d = x by omega]
    exact decide_eq_true hx
/-- The holes of a row that is straightened. -/
def strF (l : List Int) (d : Int) (t : Nat) : Bool := decide (t = 0 ∨ (t : Int) + d ∈ l)
theorem str_row {q y : Rw} {l : List Int} (h : Holds q l) (hr : ∀ x ∈ l, 0 ≤ x ∧ x < 128) {d : Int} {n : Nat} (hn : n ≤ 128) (hm : MvQ q (-d) n y) : told (hole (putR y 0 true)) n = told (strF l d) n := told_congr fun t ht => by
  rw [putR_hole (by omega) (by omega)]
  unfold strF
  by_cases e : t = 0
  · rw [if_pos e]
    exact (decide_eq_true (.inl e)).symm
  · rw [if_neg e, hm.2 t (by omega), hasB_mem h hr, decide_eq_true ht, Bool.true_and, Int.sub_neg]
    exact decide_eq_decide.2 ⟨.inr, fun q => q.resolve_left e⟩
/-- The shift behind a row. -/
def shiftN (sk : Int) (i : Nat) (s : Int) : List Int → Int
  | [] => s
  | a :: _ => if a - sk ≤ sk ∧ (i = 0 ∨ (a - sk - s ≤ 1 ∧ s - (a - sk) ≤ 1)) then a - sk else s
def shiftP (sk : Int) (rows : List (List Int)) : Nat → Int
  | 0 => 0
  | i + 1 => shiftN sk i (shiftP sk rows i) (rows.getD i [])
def lstL : List Int → Int
  | [] => 128
  | a :: _ => a
theorem lstL_in {l : List Int} (hr : ∀ x ∈ l, 0 ≤ x ∧ x < 128) : 0 ≤ lstL l ∧ lstL l ≤ 128 := by
  cases l with
  | nil => exact ⟨by decide, by decide⟩
  | cons a l =>
    have := hr a (by simp)
    exact ⟨this.1, by show a ≤ 128; omega⟩
theorem shiftN_lst {sk : Int} (h : sk ≤ 10) (i : Nat) (s : Int) (l : List Int) : shiftN sk i s l = if lstL l - sk ≤ sk ∧ (i = 0 ∨ (lstL l - sk - s ≤ 1 ∧ s - (lstL l - sk) ≤ 1)) then lstL l - sk else s := by
  cases l with
  | nil =>
    have e : lstL [] = 128 := rfl
    rw [if_neg (by rw [e]; omega)]
    rfl
  | cons a l => rfl
theorem shiftP_in {sk : Int} {rows : List (List Int)} (h0 : 0 ≤ sk) (hr : ∀ l ∈ rows, ∀ x ∈ l, 0 ≤ x ∧ x < 128) : ∀ i, -sk ≤ shiftP sk rows i ∧ shiftP sk rows i ≤ sk
  | 0 => ⟨by show -sk ≤ 0; omega, h0⟩
  | i + 1 => by
    have ih := shiftP_in h0 hr i
    rw [shiftP]
    by_cases hi : i < rows.length
    · rw [getD_at hi]
      have hl := hr _ (List.getElem_mem hi)
      cases e : rows[i] with
      | nil => exact ih
      | cons a l =>
        have h1 := hl a (by rw [e]; simp)
        show -sk ≤ (if a - sk ≤ sk ∧ (i = 0 ∨ (a - sk - shiftP sk rows i ≤ 1 ∧ shiftP sk rows i - (a - sk) ≤ 1)) then a - sk else shiftP sk rows i) ∧ (if a - sk ≤ sk ∧ (i = 0 ∨ (a - sk - shiftP sk rows i ≤ 1 ∧ shiftP sk rows i - (a - sk) ≤ 1)) then a - sk else shiftP sk rows i) ≤ sk
        split <;> omega
    · rw [List.getD_eq_getElem?_getD, List.getElem?_eq_none (by omega)]
      exact ih
/-- The lowest hole. -/
def lstQ (q : Rw) : Nat := if q.1 = 0 then 64 + Lib.ctz 64 q.2 else Lib.ctz 64 q.1
theorem ctz_low {x : Nat} (h0 : x ≠ 0) (h : x < 2 ^ 64) : Lib.ctz 64 x < 64 ∧ x.testBit (Lib.ctz 64 x) = true ∧ ∀ t, t < Lib.ctz 64 x → x.testBit t = false := by
  unfold Lib.ctz
  rw [if_neg h0]
  obtain ⟨m, hm, hl⟩ := Lib.ctzFrom_spec 64 x (Nat.pos_of_ne_zero h0) h
  generalize Lib.ctzFrom 64 x = c at *
  subst hm
  refine ⟨hl, ?_, fun t ht => ?_⟩
  · rw [Nat.testBit_two_pow_mul, decide_eq_true (Nat.le_refl c), Nat.sub_self, Bool.true_and, Nat.testBit_zero]
    exact decide_eq_true (by omega)
  · rw [Nat.testBit_two_pow_mul, decide_eq_false (by omega), Bool.false_and]
theorem lstQ_is {q : Rw} {l : List Int} (h : Holds q l) (hr : ∀ x ∈ l, 0 ≤ x ∧ x < 128) (ha : l.Pairwise (· < ·)) : (lstQ q : Int) = lstL l := by
  have key : ∀ c : Nat, c < 128 → hole q c = true → (∀ t, t < c → hole q t = false) → (c : Int) = lstL l := fun c hc h1 h2 => by
    rw [h.2 c hc, decide_eq_true_iff] at h1
    cases l with
    | nil => cases h1
    | cons a l =>
      have hh := hr a (by simp)
      have h3 : ¬ a < c := fun hlt => by
        have := h2 a.toNat (by omega)
        rw [h.2 _ (by omega), show ((a.toNat : Nat) : Int) = a by omega] at this
        exact absurd (List.mem_cons_self (a := a) (l := l)) (of_decide_eq_false this)
      rcases List.mem_cons.1 h1 with e | e
      · exact e
      · have := (List.pairwise_cons.1 ha).1 _ e
        omega
  unfold lstQ
  by_cases e1 : q.1 = 0
  · rw [if_pos e1]
    by_cases e2 : q.2 = 0
    · have : l = [] := List.eq_nil_iff_forall_not_mem.2 fun a hm => by
        have hh := hr a hm
        have := h.2 a.toNat (by omega)
        rw [show ((a.toNat : Nat) : Int) = a by omega, decide_eq_true hm] at this
        unfold hole at this
        rw [e1, e2] at this
        simp at this
      rw [this, e2]
      rfl
    · obtain ⟨a, b, c⟩ := ctz_low e2 h.1.hi
      refine key _ (by omega) ?_ fun t ht => ?_
      · unfold hole
        rw [if_neg (by omega), Nat.add_sub_cancel_left]
        exact b
      · unfold hole
        by_cases e : t < 64
        · rw [if_pos e, e1, Nat.zero_testBit]
        · rw [if_neg e]
          exact c _ (by omega)
  · rw [if_neg e1]
    obtain ⟨a, b, c⟩ := ctz_low e1 h.1.lo
    refine key _ (by omega) ?_ fun t ht => ?_
    · unfold hole
      rw [if_pos a]
      exact b
    · unfold hole
      rw [if_pos (by omega)]
      exact c _ ht
theorem good_row {R : Ro} {g : Bool} (h : RollGood R g) {i : Nat} (hi : i < R.rows.length) : (∀ x ∈ R.rows[i], 0 ≤ x ∧ x < R.tracks) ∧ R.rows[i].Pairwise (· < ·) ∧ (g = true → (0 : Int) ∈ R.rows[i]) := by
  have h1 := rowErr_zero (h.row i hi)
  obtain ⟨a, b⟩ := row_asc h1.1
  exact ⟨a, b, h1.2⟩
theorem good_all {R : Ro} {g : Bool} (h : RollGood R g) : ∀ l ∈ R.rows, ∀ x ∈ l, 0 ≤ x ∧ x < 128 := fun l hl x hx => by
  obtain ⟨i, hi, rfl⟩ := List.getElem_of_mem hl
  have := (good_row h hi).1 x hx
  have := h.hi
  omega
/-- What Scan returns. -/
def scRo (R : Ro) (sh : List Int) (sk : Int) : Ro := ⟨R.tracks + 2 * sk, (List.range R.rows.length).map fun i => (R.rows.getD i []).map (· + (sk + sh.getD i 0))⟩
def scanP (R : Ro) (sh : List Int) (sk : Int) : Ro × Int :=
  if rollErr R true = 0 then
    if sk < 0 ∨ 10 < sk then (⟨0, []⟩, 7)
    else if sh.length ≠ R.rows.length then (⟨0, []⟩, 2)
    else if (∃ n ∈ sh, n < -sk ∨ sk < n) ∨ 128 < R.tracks + 2 * sk then (⟨0, []⟩, 7)
    else (scRo R sh sk, 0)
  else (⟨0, []⟩, rollErr R true)
/-- What Straighten returns. -/
def strRow (R : Ro) (sk : Int) (i : Nat) : List Int := told (strF (R.rows.getD i []) (sk + shiftP sk R.rows (i + 1))) (R.tracks - 2 * sk).toNat
def strRo (R : Ro) (sk : Int) : Ro := ⟨R.tracks - 2 * sk, (List.range R.rows.length).map (strRow R sk)⟩
def strP (R : Ro) (sk : Int) : Ro × Int :=
  if sk < 0 ∨ 10 < sk ∨ R.tracks < 2 + 2 * sk ∨ 128 < R.tracks then (⟨0, []⟩, 7)
  else if rollErr R false = 0 then (strRo R sk, 0)
  else (⟨0, []⟩, rollErr R false)
/-- What is scanned is a roll, guided or not. -/
theorem scan_good {R : Ro} {sh : List Int} {sk : Int} (h : RollGood R true) (h0 : 0 ≤ sk) (ht : R.tracks + 2 * sk ≤ 128) (hl : sh.length = R.rows.length) (hs : ∀ n ∈ sh, -sk ≤ n ∧ n ≤ sk) : rollErr (scRo R sh sk) false = 0 := by
  refine rollErr_good (by have := h.lo; show ¬ (R.tracks + 2 * sk < 2 ∨ R.tracks + 2 * sk > 128); omega) (by simp only [scRo, List.length_map, List.length_range]; exact h.len) fun j hj => ?_
  have hj2 : j < R.rows.length := by simpa [scRo] using hj
  simp only [scRo, List.getElem_map, List.getElem_range]
  rw [getD_at hj2, getD_at (by rw [hl]; exact hj2)]
  obtain ⟨a, b, _⟩ := good_row h hj2
  have hd := hs _ (List.getElem_mem (show j < sh.length by rw [hl]; exact hj2))
  generalize sh[j] = n at hd
  generalize R.rows[j] = l at *
  unfold rowErr
  have hz : firstErr (numErr (R.tracks + 2 * sk) (l.map (· + (sk + n)))) (l.map (· + (sk + n))).length = 0 := firstErr_zero fun k hk => by
    have hk2 : k < l.length := by simpa using hk
    have := a _ (List.getElem_mem hk2)
    refine numErr_good hk (by rw [List.getElem_map]; omega) (by omega) fun hk0 => ?_
    rw [List.getElem_map, List.getElem_map]
    have := List.pairwise_iff_getElem.1 b (k - 1) k (by omega) hk2 (by omega)
    omega
  rw [if_pos hz, if_neg (fun q => by cases q.1)]
theorem head_zero {l : List Int} (hr : ∀ x ∈ l, 0 ≤ x) (ha : l.Pairwise (· < ·)) (h0 : (0 : Int) ∈ l) : ∃ m, l = 0 :: m := by
  cases l with
  | nil => cases h0
  | cons a l =>
    have := hr a (by simp)
    rcases List.mem_cons.1 h0 with e | e
    · exact ⟨l, by rw [← e]⟩
    · have := (List.pairwise_cons.1 ha).1 _ e
      omega
/-- The shifts are found again. -/
theorem shift_back {R : Ro} {sh : List Int} {sk : Int} (h : RollGood R true) (hl : sh.length = R.rows.length) (hs : ∀ n ∈ sh, -sk ≤ n ∧ n ≤ sk) (hn : ∀ i (h1 : i + 1 < sh.length), sh[i + 1] - sh[i] ≤ 1 ∧ sh[i] - sh[i + 1] ≤ 1) : ∀ i (hi : i < sh.length), shiftP sk (scRo R sh sk).rows (i + 1) = sh[i] := by
  have hd : ∀ i (hi : i < sh.length), ∃ m, (scRo R sh sk).rows.getD i [] = (sk + sh[i]) :: m := fun i hi => by
    have hi2 : i < R.rows.length := by rw [← hl]; exact hi
    rw [getD_at (by simp [scRo]; exact hi2)]
    simp only [scRo, List.getElem_map, List.getElem_range]
    rw [getD_at hi2, getD_at hi]
    obtain ⟨a, b, c⟩ := good_row h hi2
    obtain ⟨m, hm⟩ := head_zero (fun x hx => (a x hx).1) b (c rfl)
    rw [hm, List.map_cons]
    exact ⟨_, by rw [Int.zero_add]⟩
  intro i
  induction i with
  | zero =>
    intro hi
    obtain ⟨m, hm⟩ := hd 0 hi
    have := hs _ (List.getElem_mem hi)
    rw [shiftP, hm, shiftN, if_pos ⟨by omega, .inl rfl⟩]
    omega
  | succ i ih =>
    intro hi
    obtain ⟨m, hm⟩ := hd (i + 1) hi
    have h1 := hs _ (List.getElem_mem hi)
    have h2 := hn i hi
    rw [shiftP, hm, ih (by omega), shiftN, if_pos ⟨by omega, .inr (by omega)⟩]
    omega
/-- What is scanned and straightened is the roll. -/
theorem straight_back {R : Ro} {sh : List Int} {sk : Int} (h : RollGood R true) (hl : sh.length = R.rows.length) (hs : ∀ n ∈ sh, -sk ≤ n ∧ n ≤ sk) (hn : ∀ i (h1 : i + 1 < sh.length), sh[i + 1] - sh[i] ≤ 1 ∧ sh[i] - sh[i + 1] ≤ 1) : strRo (scRo R sh sk) sk = R := by
  have ht : (scRo R sh sk).tracks - 2 * sk = R.tracks := by show R.tracks + 2 * sk - 2 * sk = R.tracks; omega
  have hlen : (scRo R sh sk).rows.length = R.rows.length := by simp [scRo]
  unfold strRo
  rw [ht]
  show Ro.mk R.tracks _ = Ro.mk R.tracks R.rows
  congr 1
  apply List.ext_getElem
  · rw [List.length_map, List.length_range, hlen]
  · intro i h1 h2
    rw [List.getElem_map, List.getElem_range]
    unfold strRow
    rw [ht, shift_back h hl hs hn i (by omega), getD_at (by omega)]
    simp only [scRo, List.getElem_map, List.getElem_range]
    rw [getD_at h2, getD_at (by omega)]
    obtain ⟨a, b, c⟩ := good_row h h2
    refine asc_same told_asc b fun n => ?_
    rw [mem_told]
    have hm : ∀ t : Int, t + (sk + sh[i]'(by omega)) ∈ R.rows[i].map (· + (sk + sh[i]'(by omega))) ↔ t ∈ R.rows[i] := fun t => by
      rw [List.mem_map]
      constructor
      · rintro ⟨x, hx, e⟩
        rwa [show t = x by omega]
      · exact fun ht => ⟨t, ht, rfl⟩
    constructor
    · rintro ⟨t, _, rfl, hf⟩
      unfold strF at hf
      rw [decide_eq_true_iff, hm] at hf
      rcases hf with rfl | hf
      · exact c rfl
      · exact hf
    · intro hx
      have := a n hx
      refine ⟨n.toNat, by omega, by omega, ?_⟩
      unfold strF
      rw [decide_eq_true_iff, hm, show ((n.toNat : Nat) : Int) = n by omega]
      exact .inr hx
end Go.Proofs.YtppccacfdpkkgaaDoor
