/-
  PLAIN: what is read of a made roll: the same is on at the tick of each row; it is tidy. No program in sight. PLAIN: the changes from what is on to what is on, thing by thing; the made roll. No program in sight. CONTRACTS: ref31.number, ref31.changes: the changes from what is on to what is on. CONTRACTS: ref31.tidied and Tidy, of a recording that is tidy. CONTRACTS: ref31.Tidy of a recording that is tidy; arrays of what is on, compared; what a made roll is. AN ARGUMENT THAT SAYS HOW A ROLL IS READ: opened to its cells. ARGUMENTS THAT ARE A RECORDING, A SCALE: opened to their cells. THE LAW RollsPlay: the walk.
-/
import Derived.Test.YtppccacfdpkkgaaGreatDoorKO
import Derived.Test.YtppccacfdpkkgaaGreatDoorK17
import Derived.Test.YtppccacfdpkkgaaGreatDoorK20
import Derived.Test.YtppccacfdpkkgaaGreatDoorKP
import Derived.Lib.AppendZeros
import Derived.Test.YtppccacfdpkkgaaGreatDoorKW
import Derived.Test.YtppccacfdpkkgaaGreatDoorK7
import Derived.Test.YtppccacfdpkkgaaGreatDoorOpen
import Derived.Test.YtppccacfdpkkgaaGreatDoorOpenR
import Derived.Test.YtppccacfdpkkgaaGreatDoorK10
import Derived.Test.YtppccacfdpkkgaaGreatDoorK14
import Derived.Test.YtppccacfdpkkgaaGreatDoorL3
import Derived.Deep.QuietTactic
import Derived.BigQuiet
namespace Go.Proofs.YtppccacfdpkkgaaGreatDoor
section
theorem mem_evsT_iff {rt least : Int} {sl : Nat → List (Nat × Nat)} {e : Ev} : ∀ {k : Nat} {xs : List Th}, e ∈ evsT rt least sl k xs ↔ ∃ i, ∃ h : i < xs.length, e ∈ evsL rt least xs[i] (sl (k + i))
  | k, [] => by simp [evsT]
  | k, x :: xs => by
    rw [evsT, List.mem_append, mem_evsT_iff]
    constructor
    · rintro (h | ⟨i, hi, h⟩)
      · exact ⟨0, by simp, h⟩
      · exact ⟨i + 1, by simpa using hi, by rw [show k + (i + 1) = k + 1 + i by omega]; exact h⟩
    · rintro ⟨i, hi, h⟩
      cases i with
      | zero => exact .inl h
      | succ i => exact .inr ⟨i, by simpa using hi, by rw [show k + 1 + i = k + (i + 1) by omega]; exact h⟩
theorem mem_evsL_iff {rt : Int} {x : Th} {e : Ev} : ∀ {sl : List (Nat × Nat)}, (∀ s ∈ sl, s.1 ≤ s.2) → (e ∈ evsL rt 1 x sl ↔ ∃ s ∈ sl, e ∈ evsOf rt x s)
  | [], _ => by simp [evsL]
  | s :: sl, h => by
    have hs := h s (by simp)
    rw [evsL, List.mem_append, mem_evsL_iff (fun s hs => h s (by simp [hs])), if_neg (by omega)]
    simp
/-- How often a track begins to have holes. -/
def starts (f : Nat → Bool) : Nat → Nat
  | 0 => 0
  | n + 1 => starts f n + if f n = true ∧ (n = 0 ∨ f (n - 1) = false) then 1 else 0
theorem slots_starts {f : Nat → Bool} : ∀ n, (slotsP f 0 n).length ≤ starts f n
  | 0 => Nat.le_refl _
  | n + 1 => by
    have ih := slots_starts (f := f) n
    rw [starts]
    cases hf : f n with
    | false => rw [slotsP_skip hf]; simpa using ih
    | true =>
      by_cases h0 : n = 0
      · subst h0
        rw [slotsP_first hf rfl, if_pos ⟨rfl, .inl rfl⟩]
        simp
      · cases hg : f (n - 1) with
        | false =>
          rw [if_pos ⟨rfl, .inr rfl⟩]
          rcases List.eq_nil_or_concat (slotsP f 0 n) with e | ⟨l, x, e⟩
          · rw [slotsP_first hf e]
            simp
          · rw [List.concat_eq_append] at e
            by_cases hj : (n : Int) - x.2 - 1 ≤ 0
            · rw [slotsP_join hf e hj]
              rw [e] at ih
              simp only [List.length_append, List.length_singleton] at ih ⊢
              omega
            · rw [slotsP_new hf e hj]
              rw [e] at ih
              simp only [List.length_append, List.length_singleton] at ih ⊢
              omega
        | true =>
          obtain ⟨l, a, e⟩ := slots_last (gap := 0) hg
          rw [show n - 1 + 1 = n by omega] at e
          rw [slotsP_join hf e (by simp only; omega), if_neg (by simp [h0])]
          rw [e] at ih
          simp only [List.length_append, List.length_singleton, Nat.add_zero] at ih ⊢
          omega
/-- How many of the first events move a thing. -/
def moves (l : List Ev) (x : Th) (p : Nat) : Nat := (l.take p).countP fun y => decide (y.2.1 ≠ 5 ∧ thing y = x)
theorem moves_succ {l : List Ev} {x : Th} {p : Nat} (h : p < l.length) : moves l x (p + 1) = moves l x p + if l[p].2.1 ≠ 5 ∧ thing l[p] = x then 1 else 0 := by
  unfold moves
  rw [List.take_succ_eq_append_getElem h, List.countP_append, List.countP_singleton]
  simp only [decide_eq_true_eq]
theorem moves_le (l : List Ev) (x : Th) (p : Nat) : moves l x p ≤ l.length := by
  unfold moves
  have h1 := List.countP_le_length (p := fun y : Ev => decide (y.2.1 ≠ 5 ∧ thing y = x)) (l := l.take p)
  rw [List.length_take] at h1
  omega
theorem moves_mono {l : List Ev} {x : Th} {p : Nat} : ∀ d, p + d ≤ l.length → moves l x p ≤ moves l x (p + d) ∧ (moves l x (p + d) = moves l x p → onV (l.take (p + d)) x = onV (l.take p) x)
  | 0, _ => ⟨Nat.le_refl _, fun _ => rfl⟩
  | d + 1, h => by
    obtain ⟨h1, h2⟩ := moves_mono (l := l) (x := x) (p := p) d (by omega)
    have hm := moves_succ (x := x) (show p + d < l.length by omega)
    rw [show p + (d + 1) = p + d + 1 by omega, hm, onV_take (by omega)]
    by_cases e : l[p + d].2.1 ≠ 5 ∧ thing l[p + d] = x
    · rw [if_pos e]
      exact ⟨by omega, fun q => by omega⟩
    · rw [if_neg e]
      refine ⟨by omega, fun q => ?_⟩
      unfold onS
      rw [if_neg e]
      exact h2 (by omega)
theorem moves_lt {l : List Ev} {x : Th} {p q : Nat} (h : p ≤ q) (hq : q ≤ l.length) (hne : onV (l.take q) x ≠ onV (l.take p) x) : moves l x p < moves l x q := by
  obtain ⟨d, rfl⟩ : ∃ d, q = p + d := ⟨q - p, by omega⟩
  obtain ⟨h1, h2⟩ := moves_mono (x := x) d hq
  rcases Nat.lt_or_ge (moves l x p) (moves l x (p + d)) with c | c
  · exact c
  · exact absurd (h2 (by omega)) hne
theorem upN_le (l : List Ev) (t : Int) : upN l t ≤ l.length := (List.takeWhile_prefix _).length_le
theorem upN_mono {l : List Ev} {t u : Int} (h : t ≤ u) : upN l t ≤ upN l u := by
  unfold upN
  induction l with
  | nil => exact Nat.le_refl _
  | cons y l ih =>
    by_cases e : y.1 ≤ t
    · rw [List.takeWhile_cons_of_pos (by simpa using e), List.takeWhile_cons_of_pos (by simpa using (show y.1 ≤ u by omega))]
      simp only [List.length_cons]
      omega
    · rw [List.takeWhile_cons_of_neg (by simpa using e)]
      exact Nat.zero_le _
/-- A track of a made roll does not begin more often than its thing is moved. -/
theorem starts_moves {l : List Ev} {x : Th} {rt : Int} (hrt : 0 ≤ rt) {f : Nat → Bool} {n : Nat} (hf : ∀ i, i < n → f i = decide (onV (l.take (upN l ((i : Int) * rt))) x = 1)) : ∀ k, k < n → starts f (k + 1) ≤ moves l x (upN l ((k : Int) * rt))
  | 0, hk => by
    rw [starts, starts, Nat.zero_add]
    split
    · rename_i h
      have h1 := h.1
      rw [hf 0 hk, decide_eq_true_iff] at h1
      have := moves_lt (l := l) (x := x) (p := 0) (q := upN l (((0 : Nat) : Int) * rt)) (Nat.zero_le _) (upN_le _ _) (by rw [h1]; exact fun q => by cases q)
      omega
    · exact Nat.zero_le _
  | k + 1, hk => by
    have ih := starts_moves hrt hf k (by omega)
    have hm : upN l ((k : Int) * rt) ≤ upN l (((k + 1 : Nat) : Int) * rt) := upN_mono (Int.mul_le_mul_of_nonneg_right (by omega) hrt)
    have h0 := (moves_mono (l := l) (x := x) (p := upN l ((k : Int) * rt)) (upN l (((k + 1 : Nat) : Int) * rt) - upN l ((k : Int) * rt)) (by have := upN_le l (((k + 1 : Nat) : Int) * rt); omega)).1
    rw [show upN l ((k : Int) * rt) + (upN l (((k + 1 : Nat) : Int) * rt) - upN l ((k : Int) * rt)) = upN l (((k + 1 : Nat) : Int) * rt) by omega] at h0
    rw [starts]
    split
    · rename_i h
      have h1 := h.1
      rw [hf (k + 1) hk, decide_eq_true_iff] at h1
      have h2 := h.2.resolve_left (by omega)
      rw [show k + 1 - 1 = k by omega, hf k (by omega), decide_eq_false_iff_not] at h2
      have := moves_lt (l := l) (x := x) hm (upN_le _ _) (by rw [h1]; exact fun q => h2 q.symm)
      omega
    · omega
theorem evsT_lenR {rt least : Int} {sl : Nat → List (Nat × Nat)} {N : Nat} : ∀ (k : Nat) (xs : List Th), (∀ j, k ≤ j → j < k + xs.length → (sl j).length ≤ N) → (evsT rt least sl k xs).length ≤ 2 * N * xs.length
  | _, [], _ => Nat.zero_le _
  | k, x :: xs, h => by
    have h1 := evsL_len rt least x (sl k)
    have h2 := h k (Nat.le_refl _) (by rw [List.length_cons]; omega)
    have h3 := evsT_lenR (rt := rt) (least := least) (sl := sl) (N := N) (k + 1) xs (fun j a b => h j (by omega) (by rw [List.length_cons]; omega))
    rw [evsT, List.length_append, List.length_cons, Nat.mul_add, Nat.mul_one]
    omega
/-- The last event that moves a thing. -/
theorem onV_last (x : Th) : ∀ {n : Nat} {P : List Ev}, P.length = n → P.Pairwise evLt → (∀ e ∈ P, e.2.1 ≠ 5) → (onV P x = 0 ∧ ∀ e ∈ P, thing e ≠ x) ∨ ∃ e ∈ P, thing e = x ∧ onV P x = e.2.2.2.2 ∧ ∀ e' ∈ P, thing e' = x → e' = e ∨ evLt e' e
  | 0, P, hn, _, _ => by
    rw [List.length_eq_zero_iff.1 hn]
    exact .inl ⟨rfl, fun e h => by cases h⟩
  | n + 1, P, hn, hp, h5 => by
    rcases List.eq_nil_or_concat P with e | ⟨Q, y, e⟩
    · rw [e] at hn; cases hn
    · rw [List.concat_eq_append] at e
      subst e
      rw [List.length_append, List.length_singleton] at hn
      rw [List.pairwise_append] at hp
      rw [onV_snoc]
      unfold onS
      by_cases hx : thing y = x
      · rw [if_pos ⟨h5 y (by simp), hx⟩]
        refine .inr ⟨y, by simp, hx, rfl, fun e' he _ => ?_⟩
        rcases List.mem_append.1 he with h | h
        · exact .inr (hp.2.2 e' h y (by simp))
        · exact .inl (by simpa using h)
      · rw [if_neg (fun q => hx q.2)]
        rcases onV_last x (show Q.length = n by omega) hp.1 (fun e he => h5 e (by simp [he])) with ⟨h1, h2⟩ | ⟨e, he, h1, h2, h3⟩
        · refine .inl ⟨h1, fun e he => ?_⟩
          rcases List.mem_append.1 he with h | h
          · exact h2 e h
          · rw [List.mem_singleton.1 h]; exact hx
        · refine .inr ⟨e, by simp [he], h1, h2, fun e' he' hx' => ?_⟩
          rcases List.mem_append.1 he' with h | h
          · exact h3 e' h hx'
          · rw [List.mem_singleton.1 h] at hx'; exact absurd hx' hx
/-- Events of slots in order: m holds them, strictly ascending. -/
structure PlOk (rt : Int) (th : List Th) (n : Nat) (F : Nat → Nat → Bool) (m : List Ev) : Prop where
  rt1 : 1 ≤ rt
  nodup : th.Nodup
  asc : m.Pairwise evLt
  mem : ∀ e, e ∈ m ↔ ∃ k, ∃ h : k < th.length, ∃ s ∈ slotsP (F k) 0 n, e ∈ evsOf rt th[k] s
  kind : ∀ x ∈ th, 1 ≤ x.1 ∧ x.1 ≤ 3
section
variable {rt : Int} {th : List Th} {n : Nat} {F : Nat → Nat → Bool} {m : List Ev}
theorem PlOk.kinds (h : PlOk rt th n F m) {e : Ev} (he : e ∈ m) : 1 ≤ e.2.1 ∧ e.2.1 ≤ 3 ∧ thing e ∈ th := by
  obtain ⟨k, hk, s, _, hs⟩ := (h.mem e).1 he
  have ht : thing e = th[k] := evsOf_thing hs
  have := h.kind th[k] (List.getElem_mem hk)
  rw [← ht] at this
  exact ⟨this.1, this.2, by rw [ht]; exact List.getElem_mem hk⟩
/-- An event that moves a thing is one of a slot of its track. -/
theorem PlOk.slot (h : PlOk rt th n F m) {e : Ev} (he : e ∈ m) {k : Nat} (hk : k < th.length) (hx : thing e = th[k]) : ∃ s ∈ slotsP (F k) 0 n, e ∈ evsOf rt th[k] s := by
  obtain ⟨k', hk', s, hs, hes⟩ := (h.mem e).1 he
  have ht : thing e = th[k'] := evsOf_thing hes
  have : k' = k := nodup_inj h.nodup hk' hk (by rw [← ht, hx])
  subst this
  exact ⟨s, hs, hes⟩
theorem mul_lt_of {a b rt : Int} (hr : 1 ≤ rt) (h : a < b) : a * rt < b * rt := Int.mul_lt_mul_of_pos_right h (by omega)
theorem mul_le_of {a b rt : Int} (hr : 1 ≤ rt) (h : a ≤ b) : a * rt ≤ b * rt := Int.mul_le_mul_of_nonneg_right h (by omega)
theorem lt_of_mul {a b rt : Int} (hr : 1 ≤ rt) (h : a * rt < b * rt) : a < b := Int.lt_of_mul_lt_mul_right h (by omega)
theorem le_of_mul {a b rt : Int} (hr : 1 ≤ rt) (h : a * rt ≤ b * rt) : a ≤ b := by
  rcases Int.lt_or_le b a with q | q
  · have := mul_lt_of hr q
    omega
  · exact q
def onE (rt : Int) (x : Th) (s : Nat × Nat) : Ev := ((s.1 : Int) * rt, x.1, x.2.1, x.2.2, 1)
def offE (rt : Int) (x : Th) (s : Nat × Nat) : Ev := (((s.2 : Int) + 1) * rt, x.1, x.2.1, x.2.2, 0)
theorem mem_evsOf {x : Th} {s : Nat × Nat} {e : Ev} : e ∈ evsOf rt x s ↔ e = onE rt x s ∨ e = offE rt x s := by simp [evsOf, onE, offE]
/-- Events of one thing are in the order of their ticks. -/
theorem evLt_tick {a b : Ev} (h : thing a = thing b) : evLt a b ↔ a.1 < b.1 := by
  unfold thing at h
  simp only [Prod.mk.injEq] at h
  unfold evLt
  omega
theorem slots_parted {f : Nat → Bool} {s s' : Nat × Nat} (h : s ∈ slotsP f 0 n) (h' : s' ∈ slotsP f 0 n) : s = s' ∨ s.2 + 1 < s'.1 ∨ s'.2 + 1 < s.1 := by
  by_cases e : s = s'
  · exact .inl e
  · right
    have hp := (apart_slots (f := f) (gap := 0) (n := n) (by decide)).2
    rw [List.pairwise_iff_getElem] at hp
    obtain ⟨i, hi, rfl⟩ := List.getElem_of_mem h
    obtain ⟨j, hj, rfl⟩ := List.getElem_of_mem h'
    rcases Nat.lt_trichotomy i j with q | q | q
    · exact .inl (hp i j hi hj q)
    · subst q; exact absurd rfl e
    · exact .inr (hp j i hj hi q)
/-- At the tick of a row the thing of a track is on exactly if it has a hole there. -/
theorem PlOk.row (h : PlOk rt th n F m) {k : Nat} (hk : k < th.length) {i : Nat} (hi : i < n) {P : List Ev} (hP : P.Pairwise evLt) (hm : ∀ e, e ∈ P ↔ e ∈ m ∧ e.1 ≤ (i : Int) * rt) : onV P th[k] = if F k i then 1 else 0 := by
  have hon : ∀ s ∈ slotsP (F k) 0 n, s.1 ≤ i → onE rt th[k] s ∈ P := fun s hs hle => (hm _).2 ⟨(h.mem _).2 ⟨k, hk, s, hs, mem_evsOf.2 (.inl rfl)⟩, mul_le_of h.rt1 (by omega)⟩
  have hoff : ∀ s ∈ slotsP (F k) 0 n, s.2 + 1 ≤ i → offE rt th[k] s ∈ P := fun s hs hle => (hm _).2 ⟨(h.mem _).2 ⟨k, hk, s, hs, mem_evsOf.2 (.inr rfl)⟩, mul_le_of h.rt1 (by omega)⟩
  rcases onV_last th[k] rfl hP (fun e he => by have := h.kinds ((hm e).1 he).1; omega) with ⟨h1, h2⟩ | ⟨e, he, hx, hv, hl⟩
  · rw [h1]
    cases hf : F k i with
    | false => rfl
    | true =>
      obtain ⟨s, hs, a, b⟩ := slots_cover (gap := 0) hi hf
      exact absurd rfl (h2 _ (hon s hs a))
  · obtain ⟨hem, het⟩ := (hm e).1 he
    obtain ⟨s, hs, hes⟩ := h.slot hem hk hx
    have hs12 := (slotsP_in s hs).1
    rcases mem_evsOf.1 hes with e1 | e1
    · have hle : s.1 ≤ i := by
        have := le_of_mul h.rt1 (show (s.1 : Int) * rt ≤ (i : Int) * rt by rw [e1] at het; exact het)
        omega
      rcases Nat.lt_or_ge s.2 i with c | c
      · rcases hl _ (hoff s hs c) rfl with q | q
        · rw [e1] at q
          simp [onE, offE] at q
        · rw [evLt_tick (by rw [hx]; rfl), e1] at q
          have := lt_of_mul h.rt1 (show ((s.2 : Int) + 1) * rt < (s.1 : Int) * rt from q)
          omega
      · rw [hv, e1, slots0_full s hs i hle c]
        rfl
    · have hle : s.2 + 1 ≤ i := by
        have := le_of_mul h.rt1 (show ((s.2 : Int) + 1) * rt ≤ (i : Int) * rt by rw [e1] at het; exact het)
        omega
      rw [hv, e1]
      cases hf : F k i with
      | false => rfl
      | true =>
        obtain ⟨s', hs', a, b⟩ := slots_cover (gap := 0) hi hf
        have hs12' := (slotsP_in s' hs').1
        have hlt : (s'.1 : Int) ≤ (s.2 : Int) + 1 := by
          rcases hl _ (hon s' hs' a) rfl with q | q
          · rw [e1] at q
            simp [onE, offE] at q
          · rw [evLt_tick (by rw [hx]; rfl), e1] at q
            have := lt_of_mul h.rt1 (show (s'.1 : Int) * rt < ((s.2 : Int) + 1) * rt from q)
            omega
        rcases slots_parted hs hs' with q | q | q
        · subst q; omega
        · omega
        · omega
/-- What a thing has ahead of an event that moves it: the other value. -/
theorem PlOk.turn (h : PlOk rt th n F m) {e : Ev} (he : e ∈ m) {P : List Ev} (hP : P.Pairwise evLt) (hm : ∀ e', e' ∈ P ↔ e' ∈ m ∧ evLt e' e) : onV P (thing e) = 1 - e.2.2.2.2 := by
  obtain ⟨k, hk, s, hs, hes⟩ := (h.mem e).1 he
  have ht : thing e = th[k] := evsOf_thing hes
  have hs12 := (slotsP_in s hs).1
  have hin : ∀ e', e' ∈ m → thing e' = th[k] → e'.1 < e.1 → e' ∈ P := fun e' h1 h2 h3 => (hm e').2 ⟨h1, (evLt_tick (by rw [h2, ht])).2 h3⟩
  have hinm : ∀ s' ∈ slotsP (F k) 0 n, ∀ e', e' ∈ evsOf rt th[k] s' → e' ∈ m := fun s' hs' e' h' => (h.mem e').2 ⟨k, hk, s', hs', h'⟩
  rcases onV_last (thing e) rfl hP (fun e' he' => by have := h.kinds ((hm e').1 he').1; omega) with ⟨h1, h2⟩ | ⟨e', he', hx, hv, hl⟩
  · rw [h1]
    rcases mem_evsOf.1 hes with e1 | e1
    · rw [e1]; rfl
    · exfalso
      refine h2 (onE rt th[k] s) (hin _ (hinm s hs _ (mem_evsOf.2 (.inl rfl))) rfl ?_) (by rw [ht]; rfl)
      rw [e1]
      exact mul_lt_of h.rt1 (by omega)
  · obtain ⟨hem, hlt⟩ := (hm e').1 he'
    rw [ht] at hx
    obtain ⟨s', hs', hes'⟩ := h.slot hem hk hx
    have hs12' := (slotsP_in s' hs').1
    rw [evLt_tick (by rw [hx, ht])] at hlt
    rw [hv]
    rcases mem_evsOf.1 hes with e1 | e1 <;> rcases mem_evsOf.1 hes' with e2 | e2
    · exfalso
      have hlt2 := lt_of_mul h.rt1 (show (s'.1 : Int) * rt < (s.1 : Int) * rt by rw [e1, e2] at hlt; exact hlt)
      have hsep : s'.2 + 1 < s.1 := by
        rcases slots_parted hs hs' with q | q | q
        · subst q; omega
        · omega
        · exact q
      have hP2 : offE rt th[k] s' ∈ P := hin _ (hinm s' hs' _ (mem_evsOf.2 (.inr rfl))) rfl (by rw [e1]; exact mul_lt_of h.rt1 (by omega))
      rcases hl _ hP2 (by rw [ht]; rfl) with q | q
      · rw [e2] at q
        simp [onE, offE] at q
      · rw [evLt_tick (by rw [e2]; rfl), e2] at q
        have := lt_of_mul h.rt1 (show ((s'.2 : Int) + 1) * rt < (s'.1 : Int) * rt from q)
        omega
    · rw [e1, e2]; rfl
    · rw [e1, e2]; rfl
    · exfalso
      have hlt2 := lt_of_mul h.rt1 (show ((s'.2 : Int) + 1) * rt < ((s.2 : Int) + 1) * rt by rw [e1, e2] at hlt; exact hlt)
      have hP2 : onE rt th[k] s ∈ P := hin _ (hinm s hs _ (mem_evsOf.2 (.inl rfl))) rfl (by rw [e1]; exact mul_lt_of h.rt1 (by omega))
      rcases hl _ hP2 (by rw [ht]; rfl) with q | q
      · rw [e2] at q
        simp [onE, offE] at q
      · rw [evLt_tick (by rw [e2]; rfl), e2] at q
        have := lt_of_mul h.rt1 (show (s.1 : Int) * rt < ((s'.2 : Int) + 1) * rt from q)
        rcases slots_parted hs hs' with q | q | q
        · subst q; omega
        · omega
        · omega
end
end
section
theorem take_tick {m : List Ev} (hp : m.Pairwise evLt) {T : Int} {e : Ev} : e ∈ m.take (upN m T) ↔ e ∈ m ∧ e.1 ≤ T := by
  have hpre := List.takeWhile_prefix (fun x : Ev => decide (x.1 ≤ T)) (l := m)
  have ht : m.take (upN m T) = m.takeWhile fun x => decide (x.1 ≤ T) := (List.prefix_iff_eq_take.1 hpre).symm
  rw [ht]
  clear ht hpre
  induction m with
  | nil => simp
  | cons y m ih =>
    rw [List.pairwise_cons] at hp
    have ih2 : (e ∈ List.takeWhile (fun x : Ev => decide (x.1 ≤ T)) m) = (e ∈ m ∧ e.1 ≤ T) := propext (ih hp.2)
    by_cases c : y.1 ≤ T
    · rw [List.takeWhile_cons_of_pos (by simpa using c), List.mem_cons, ih2, List.mem_cons]
      constructor
      · rintro (q | q)
        · subst q; exact ⟨.inl rfl, c⟩
        · exact ⟨.inr q.1, q.2⟩
      · rintro ⟨q | q, h⟩
        · exact .inl q
        · exact .inr ⟨q, h⟩
    · rw [List.takeWhile_cons_of_neg (by simpa using c)]
      constructor
      · intro q; cases q
      · rintro ⟨q, h⟩
        rcases List.mem_cons.1 q with q | q
        · subst q; exact absurd h c
        · have := hp.1 e q
          unfold evLt at this
          omega
theorem take_lt {m : List Ev} (hp : m.Pairwise evLt) {i : Nat} (hi : i < m.length) {e : Ev} : e ∈ m.take i ↔ e ∈ m ∧ evLt e m[i] := by
  rw [List.pairwise_iff_getElem] at hp
  constructor
  · intro h
    obtain ⟨j, hj, rfl⟩ := List.mem_take_iff_getElem.1 h
    exact ⟨List.getElem_mem _, hp j i (by omega) hi (by omega)⟩
  · rintro ⟨h, hl⟩
    obtain ⟨j, hj, rfl⟩ := List.getElem_of_mem h
    rcases Nat.lt_or_ge j i with c | c
    · exact List.mem_take_iff_getElem.2 ⟨j, by omega, rfl⟩
    · rcases Nat.lt_or_ge i j with c2 | c2
      · exact absurd hl (evLt_asymm (hp i j hi hj c2))
      · have : j = i := by omega
        subst this
        exact absurd hl (evLt_irrefl _)
theorem asc_take {m : List Ev} (hp : m.Pairwise evLt) (i : Nat) : (m.take i).Pairwise evLt := hp.sublist (List.take_sublist _ _)
section
variable {rt : Int} {th : List Th} {n : Nat} {F : Nat → Nat → Bool} {m : List Ev}
theorem PlOk.ahead (h : PlOk rt th n F m) {i : Nat} (hi : i < m.length) : onV (m.take i) (thing m[i]) = 1 - m[i].2.2.2.2 :=
  h.turn (List.getElem_mem hi) (asc_take h.asc i) (fun _ => take_lt h.asc hi)
theorem PlOk.val (h : PlOk rt th n F m) {e : Ev} (he : e ∈ m) : e.2.2.2.2 = 0 ∨ e.2.2.2.2 = 1 := by
  obtain ⟨k, hk, s, _, hes⟩ := (h.mem e).1 he
  rcases mem_evsOf.1 hes with q | q
  · rw [q]; exact .inr rfl
  · rw [q]; exact .inl rfl
theorem PlOk.tick (h : PlOk rt th n F m) {e : Ev} (he : e ∈ m) : 0 ≤ e.1 ∧ e.1 ≤ (n : Int) * rt := by
  obtain ⟨k, hk, s, hs, hes⟩ := (h.mem e).1 he
  have h12 := slotsP_in s hs
  rcases mem_evsOf.1 hes with q | q
  · rw [q]
    exact ⟨Int.mul_nonneg (by omega) (by have := h.rt1; omega), mul_le_of h.rt1 (by omega)⟩
  · rw [q]
    exact ⟨Int.mul_nonneg (by omega) (by have := h.rt1; omega), mul_le_of h.rt1 (by omega)⟩
theorem thE_evE {S : Sp} {e : Ev} (hk : 1 ≤ e.2.1 ∧ e.2.1 ≤ 3) (hv : e.2.2.2.2 = 0 ∨ e.2.2.2.2 = 1) (h : thE S (thing e) = 0) : evE S e = 0 := by
  obtain ⟨a, k, d, n, v⟩ := e
  simp only at hk hv
  unfold thing at h
  simp only at h
  unfold thE at h
  simp only at h
  by_cases h1 : k < 1 ∨ 3 < k ∨ (k ≠ 1 ∧ d ≠ 0)
  · rw [if_pos h1] at h; cases h
  · rw [if_neg h1] at h
    by_cases h2 : there S k d n = false
    · rw [if_pos h2] at h; cases h
    · rw [if_neg h2] at h
      have h3 := fun q => (show False from absurd (ite_eq_right_iff.1 h q) (by decide))
      have ht : there S k d n = true := by simpa using h2
      unfold there at ht
      rcases (show k = 1 ∨ k = 2 ∨ k = 3 by omega) with rfl | rfl | rfl
      · rw [if_pos rfl, decide_eq_true_iff] at ht
        obtain ⟨d, rfl⟩ := Int.eq_ofNat_of_zero_le ht.1
        have hd : d < S.ds.length := by omega
        have hk : keyIn S (d : Int) n = decide (S.ds[d].lo ≤ n ∧ n ≤ S.ds[d].hi) := by unfold keyIn; rw [Int.toNat_natCast, List.getElem?_eq_getElem hd]
        have hk2 : S.ds[d].lo ≤ n ∧ n ≤ S.ds[d].hi := by
          by_cases q : S.ds[d].lo ≤ n ∧ n ≤ S.ds[d].hi
          · exact q
          · exact (h3 ⟨rfl, by rw [hk]; exact decide_eq_false q⟩).elim
        rw [evE_key S a d n v hd, if_pos (by omega)]
      · have : d = 0 := by omega
        subst this
        rw [if_neg (by decide), if_pos rfl, decide_eq_true_iff] at ht
        rw [evE_stop, if_pos ht, if_pos (by omega)]
      · have : d = 0 := by omega
        subst this
        rw [if_neg (by decide), if_neg (by decide), if_pos rfl, decide_eq_true_iff] at ht
        rw [evE_coupler, if_pos ht, if_pos (by omega)]
/-- It is a recording without error. -/
theorem PlOk.recE0 {S : Sp} (h : PlOk rt th n F m) (hc : (checkP S).2 = 0) (hth : ∀ x ∈ th, thE S x = 0) (hl : m.length ≤ 20000) (hn : (n : Int) * rt ≤ 100000000) : recE S m = (0, 0) := by
  refine recE_good hc (by omega) (fun i hi => ?_)
  have hmem := List.getElem_mem hi
  obtain ⟨k1, k2, k3⟩ := h.kinds hmem
  have ht := h.tick hmem
  refine recF_good hi ?_ (thE_evE ⟨k1, k2⟩ (h.val hmem) (hth _ k3)) ?_
  · have h0 : tickB m i ≤ m[i].1 := by
      cases i with
      | zero => exact ht.1
      | succ i =>
        rw [tickB_next (by omega)]
        have := (List.pairwise_iff_getElem.1 h.asc) i (i + 1) (by omega) hi (by omega)
        unfold evLt at this
        omega
    omega
  · rw [h.ahead hi]
    have := h.val hmem
    omega
end
/-- The thing of a cell of what is on. -/
def thOf (i : Nat) : Th := if i < 768 then (1, ((i / 128 : Nat) : Int), ((i % 128 : Nat) : Int)) else if i < 848 then (2, 0, ((i - 768 : Nat) : Int)) else if i < 872 then (3, 0, ((i - 848 : Nat) : Int)) else (4, 0, ((i - 872 : Nat) : Int))
theorem thOf_ix {i : Nat} (h : i < 876) : OnIx (thOf i) i := by
  unfold thOf
  by_cases h1 : i < 768
  · rw [if_pos h1]
    exact .inl ⟨rfl, by simp only; omega, by simp only; omega, by simp only; omega, by simp only; omega, by simp only; omega⟩
  · rw [if_neg h1]
    by_cases h2 : i < 848
    · rw [if_pos h2]
      exact .inr (.inl ⟨rfl, rfl, by simp only; omega, by simp only; omega, by simp only; omega⟩)
    · rw [if_neg h2]
      by_cases h3 : i < 872
      · rw [if_pos h3]
        exact .inr (.inr (.inl ⟨rfl, rfl, by simp only; omega, by simp only; omega, by simp only; omega⟩))
      · rw [if_neg h3]
        exact .inr (.inr (.inr ⟨rfl, rfl, by simp only; omega, by simp only; omega, by simp only; omega⟩))
theorem thOf_of {t : Th} {i : Nat} (h : OnIx t i) : t = thOf i := onIx_one (thOf_ix (onIx_lt h)) h
/-- The changes from f to g at a tick, in order. -/
def chgN (T : Int) (f g : Th → Int) : Nat → List Ev
  | 0 => []
  | i + 1 => chgN T f g i ++ if f (thOf i) = g (thOf i) then [] else [(T, (thOf i).1, (thOf i).2.1, (thOf i).2.2, g (thOf i))]
theorem mem_chgN {T : Int} {f g : Th → Int} {e : Ev} : ∀ {n : Nat}, e ∈ chgN T f g n ↔ ∃ i, i < n ∧ f (thOf i) ≠ g (thOf i) ∧ e = (T, (thOf i).1, (thOf i).2.1, (thOf i).2.2, g (thOf i))
  | 0 => by simp [chgN]
  | n + 1 => by
    rw [chgN, List.mem_append, mem_chgN]
    constructor
    · rintro (⟨i, h1, h2, h3⟩ | h)
      · exact ⟨i, by omega, h2, h3⟩
      · by_cases q : f (thOf n) = g (thOf n)
        · rw [if_pos q] at h; cases h
        · rw [if_neg q] at h
          exact ⟨n, by omega, q, by simpa using h⟩
    · rintro ⟨i, h1, h2, h3⟩
      by_cases c : i = n
      · subst c
        right
        rw [if_neg h2, h3]
        simp
      · exact .inl ⟨i, by omega, h2, h3⟩
theorem chgN_len (T : Int) (f g : Th → Int) : ∀ n, (chgN T f g n).length ≤ n
  | 0 => Nat.le_refl _
  | n + 1 => by
    have := chgN_len T f g n
    rw [chgN, List.length_append]
    split
    · simp only [List.length_nil]; omega
    · simp only [List.length_singleton]; omega
theorem thOf_lt {i j : Nat} (h : i < j) (hj : j < 876) {T a b : Int} : evLt (T, (thOf i).1, (thOf i).2.1, (thOf i).2.2, a) (T, (thOf j).1, (thOf j).2.1, (thOf j).2.2, b) := by
  have h1 := thOf_ix (show i < 876 by omega)
  have h2 := thOf_ix hj
  generalize thOf i = u at *
  generalize thOf j = v at *
  obtain ⟨u1, u2, u3⟩ := u
  obtain ⟨v1, v2, v3⟩ := v
  unfold OnIx at h1 h2
  unfold evLt
  simp only at h1 h2 ⊢
  right
  refine ⟨by trivial, ?_⟩
  rcases h1 with ⟨a1, a2, a3, a4, a5, a6⟩ | ⟨a1, a2, a3, a4, a6⟩ | ⟨a1, a2, a3, a4, a6⟩ | ⟨a1, a2, a3, a4, a6⟩ <;> rcases h2 with ⟨b1, b2, b3, b4, b5, b6⟩ | ⟨b1, b2, b3, b4, b6⟩ | ⟨b1, b2, b3, b4, b6⟩ | ⟨b1, b2, b3, b4, b6⟩
  · right
    refine ⟨by omega, ?_⟩
    rcases Int.lt_or_le u2 v2 with q | q
    · exact .inl q
    · right
      have : u2 = v2 := by omega
      subst this
      exact ⟨rfl, by omega⟩
  all_goals first | (left; omega) | (right; refine ⟨by omega, ?_⟩; right; exact ⟨by omega, by omega⟩) | (exfalso; omega)
theorem chgN_asc (T : Int) (f g : Th → Int) : ∀ n, n ≤ 876 → (chgN T f g n).Pairwise evLt
  | 0, _ => List.Pairwise.nil
  | n + 1, hn => by
    rw [chgN, List.pairwise_append]
    refine ⟨chgN_asc T f g n (by omega), ?_, ?_⟩
    · split <;> simp
    · intro a ha b hb
      obtain ⟨i, h1, _, h3⟩ := mem_chgN.1 ha
      by_cases q : f (thOf n) = g (thOf n)
      · rw [if_pos q] at hb; cases hb
      · rw [if_neg q] at hb
        rw [h3, List.mem_singleton.1 hb]
        exact thOf_lt h1 (by omega)
theorem ev_asc_same : ∀ {l m : List Ev}, l.Pairwise evLt → m.Pairwise evLt → (∀ n, n ∈ l ↔ n ∈ m) → l = m
  | [], [], _, _, _ => rfl
  | [], b :: m, _, _, h => by have := (h b).2 (by simp); cases this
  | a :: l, [], _, _, h => by have := (h a).1 (by simp); cases this
  | a :: l, b :: m, h1, h2, h => by
    rw [List.pairwise_cons] at h1 h2
    have e : a = b := by
      have p := (h a).1 (by simp)
      have q := (h b).2 (by simp)
      rw [List.mem_cons] at p q
      rcases p with p | p <;> rcases q with q | q
      · exact p
      · exact p
      · exact q.symm
      · exact absurd (h1.1 b q) (evLt_asymm (h2.1 a p))
    subst e
    rw [ev_asc_same h1.2 h2.2 fun n => ?_]
    have hn := h n
    rw [List.mem_cons, List.mem_cons] at hn
    constructor
    · intro q
      rcases hn.1 (.inr q) with e | e
      · subst e; exact absurd (h1.1 n q) (evLt_irrefl n)
      · exact e
    · intro q
      rcases hn.2 (.inr q) with e | e
      · subst e; exact absurd (h2.1 n q) (evLt_irrefl n)
      · exact e
/-- What the reference's tidied asks of a recording that is tidy. -/
structure TdOk (m : List Ev) : Prop where
  placed : ∀ x ∈ m, Placed x
  nomark : ∀ x ∈ m, x.2.1 ≠ 5
  group : ∀ i j, i ≤ j → j ≤ m.length → (∀ k (h : k < m.length), i ≤ k → k < j → ∀ hi : i < m.length, m[k].1 = m[i].1) → ∀ hi : i < m.length, m.take i ++ chgN m[i].1 (onV (m.take i)) (onV (m.take j)) 876 = m.take j
theorem placed_ix {x : Ev} (h : Placed x) (h5 : x.2.1 ≠ 5) : ∃ i, i < 876 ∧ thing x = thOf i := by
  have : ∃ i, OnIx (thing x) i := by
    cases h with
    | key a v d n hd hn hv => exact ⟨d * 128 + n, .inl ⟨rfl, by simp only [thing]; omega, by simp only [thing]; omega, by simp only [thing]; omega, by simp only [thing]; omega, by simp only [thing]; omega⟩⟩
    | stop a v n hn hv => exact ⟨768 + n, .inr (.inl ⟨rfl, rfl, by simp only [thing]; omega, by simp only [thing]; omega, by simp only [thing]; omega⟩)⟩
    | coupler a v n hn hv => exact ⟨848 + n, .inr (.inr (.inl ⟨rfl, rfl, by simp only [thing]; omega, by simp only [thing]; omega, by simp only [thing]; omega⟩))⟩
    | shade a v n hn => exact ⟨872 + n, .inr (.inr (.inr ⟨rfl, rfl, by simp only [thing]; omega, by simp only [thing]; omega, by simp only [thing]; omega⟩))⟩
    | mark => exact absurd rfl h5
  obtain ⟨i, hi⟩ := this
  exact ⟨i, onIx_lt hi, thOf_of hi⟩
section
variable {rt : Int} {th : List Th} {n : Nat} {F : Nat → Nat → Bool} {m : List Ev}
theorem PlOk.tidy (h : PlOk rt th n F m) (hpl : ∀ x ∈ m, Placed x) : TdOk m where
  placed := hpl
  nomark x hx := by have := h.kinds hx; omega
  group i j hij hj hsame hi := by
    have hd : m.take j = m.take i ++ (m.take j).drop i := by
      have := (List.take_append_drop i (m.take j)).symm
      rwa [List.take_take, Nat.min_eq_left hij] at this
    have hap : (m.take j).Pairwise evLt := asc_take h.asc j
    rw [hd] at hap ⊢
    obtain ⟨N, hN⟩ : ∃ N, N = 876 := ⟨_, rfl⟩
    rw [← hN]
    congr 1
    rw [List.pairwise_append] at hap
    refine ev_asc_same (chgN_asc _ _ _ N (by omega)) hap.2.1 (fun e => ?_)
    rw [← hd, mem_chgN]
    have hmd : ∀ e, e ∈ (m.take j).drop i ↔ ∃ k, ∃ hk : k < m.length, i ≤ k ∧ k < j ∧ e = m[k] := by
      intro e
      constructor
      · intro q
        obtain ⟨k, hk, rfl⟩ := List.getElem_of_mem q
        rw [List.length_drop, List.length_take] at hk
        refine ⟨i + k, by omega, by omega, by omega, ?_⟩
        rw [List.getElem_drop, List.getElem_take]
      · rintro ⟨k, hk, h1, h2, rfl⟩
        have : ((m.take j).drop i)[k - i]? = some m[k] := by
          rw [List.getElem?_drop, List.getElem?_take, if_pos (by omega), show i + (k - i) = k by omega, List.getElem?_eq_getElem hk]
        exact List.mem_of_getElem? this
    -- a thing that is not moved between keeps its value; one that is moved has the value of its event
    have hpar := List.pairwise_iff_getElem.1 h.asc
    have hlast : ∀ k (hk : k < m.length), i ≤ k → k < j → onV (m.take j) (thing m[k]) = m[k].2.2.2.2 := by
      intro k hk h1 h2
      rcases onV_last (thing m[k]) rfl (asc_take h.asc j) (fun e he => by have := h.kinds (List.mem_of_mem_take he); omega) with ⟨_, q⟩ | ⟨e, he, hx, hv, hl⟩
      · exact absurd rfl (q m[k] (List.mem_take_iff_getElem.2 ⟨k, by omega, rfl⟩))
      · have : m[k] = e := by
          rcases hl m[k] (List.mem_take_iff_getElem.2 ⟨k, by omega, rfl⟩) rfl with q | q
          · exact q
          · obtain ⟨p, hp, rfl⟩ := List.mem_take_iff_getElem.1 he
            have hp' : p < j := by omega
            have hpk : k < p := by
              rcases Nat.lt_trichotomy k p with c | c | c
              · exact c
              · subst c; exact absurd q (evLt_irrefl _)
              · exact absurd q (evLt_asymm (hpar p k (by omega) hk c))
            rw [evLt_tick hx.symm] at q
            have t1 := hsame k hk h1 h2 hi
            have t2 := hsame p (by omega) (by omega) hp' hi
            omega
        rw [hv, this]
    have hfirst : ∀ k (hk : k < m.length), i ≤ k → k < j → onV (m.take i) (thing m[k]) = 1 - m[k].2.2.2.2 := by
      intro k hk h1 h2
      rw [← h.ahead hk]
      obtain ⟨d, rfl⟩ : ∃ d, k = i + d := ⟨k - i, by omega⟩
      refine ((moves_mono (l := m) (x := thing m[i + d]) (p := i) d (by omega)).2 ?_).symm
      unfold moves
      have e2 : m.take (i + d) = m.take i ++ (m.take (i + d)).drop i := by
        have := (List.take_append_drop i (m.take (i + d))).symm
        rwa [List.take_take, Nat.min_eq_left (by omega)] at this
      have hz : ((m.take (i + d)).drop i).countP (fun y : Ev => decide (y.2.1 ≠ 5 ∧ thing y = thing m[i + d])) = 0 := by
        rw [List.countP_eq_zero]
        intro a ha
        obtain ⟨q, hq, rfl⟩ := List.getElem_of_mem ha
        rw [List.length_drop, List.length_take] at hq
        rw [List.getElem_drop, List.getElem_take]
        simp only [decide_eq_true_eq]
        rintro ⟨_, hx⟩
        have hlt := hpar (i + q) (i + d) (by omega) hk (by omega)
        rw [evLt_tick hx] at hlt
        have t1 := hsame (i + d) hk h1 h2 hi
        have t2 := hsame (i + q) (by omega) (by omega) (by omega) hi
        omega
      rw [e2, List.countP_append, hz, Nat.add_zero]
    constructor
    · rintro ⟨q, hq, hne, rfl⟩
      rw [hmd]
      -- an event between moves it
      have hmv : moves m (thOf q) i < moves m (thOf q) j := moves_lt hij hj (fun e => hne e.symm)
      have : ∃ a ∈ (m.take j).drop i, thing a = thOf q := by
        unfold moves at hmv
        rw [hd, List.countP_append] at hmv
        rcases Nat.eq_zero_or_pos (((m.take j).drop i).countP fun y : Ev => decide (y.2.1 ≠ 5 ∧ thing y = thOf q)) with c | c
        · omega
        · obtain ⟨a, ha, hb⟩ := List.countP_pos_iff.1 c
          exact ⟨a, ha, (of_decide_eq_true hb).2⟩
      obtain ⟨a, ha, hx⟩ := this
      obtain ⟨k, hk, h1, h2, rfl⟩ := (hmd a).1 ha
      refine ⟨k, hk, h1, h2, ?_⟩
      rw [← hx, hlast k hk h1 h2, ← hsame k hk h1 h2 hi]
      rfl
    · intro he
      obtain ⟨k, hk, h1, h2, rfl⟩ := (hmd e).1 he
      obtain ⟨q, hq, hx⟩ := placed_ix (hpl m[k] (List.getElem_mem hk)) (by have := h.kinds (List.getElem_mem hk); omega)
      refine ⟨q, by omega, ?_, ?_⟩
      · rw [← hx, hlast k hk h1 h2, hfirst k hk h1 h2]
        have := h.val (List.getElem_mem hk)
        omega
      · rw [← hx, hlast k hk h1 h2, ← hsame k hk h1 h2 hi]
        rfl
end
theorem onV_zero {t : Th} : ∀ {n : Nat} {P : List Ev}, P.length = n → (∀ e ∈ P, thing e = t → e.2.1 = 5) → onV P t = 0
  | 0, P, hn, _ => by rw [List.length_eq_zero_iff.1 hn]; rfl
  | n + 1, P, hn, h => by
    rcases List.eq_nil_or_concat P with e | ⟨Q, y, e⟩
    · rw [e] at hn; cases hn
    · rw [List.concat_eq_append] at e
      subst e
      rw [List.length_append, List.length_singleton] at hn
      rw [onV_snoc]
      unfold onS
      rw [if_neg (fun q => q.1 (h y (by simp) q.2))]
      exact onV_zero (show Q.length = n by omega) (fun e he => h e (by simp [he]))
theorem bin_onV : ∀ {n : Nat} {P : List Ev}, P.length = n → (∀ x ∈ P, Placed x) → Bin (onV P)
  | 0, P, hn, _ => by rw [List.length_eq_zero_iff.1 hn]; exact bin_zero
  | n + 1, P, hn, h => by
    rcases List.eq_nil_or_concat P with e | ⟨Q, y, e⟩
    · rw [e] at hn; cases hn
    · rw [List.concat_eq_append] at e
      subst e
      rw [List.length_append, List.length_singleton] at hn
      rw [onV_snoc]
      exact bin_on (bin_onV (show Q.length = n by omega) (fun e he => h e (by simp [he]))) (h y (by simp))
/-- The roll that Make makes of n rows. -/
def madeR (l : List Ev) (rt : Int) (th : List Th) (n : Nat) : Ro := ⟨th.length + 1, (List.range n).map fun (i : Nat) => onRow (onV (l.take (upN l ((i : Int) * rt)))) th⟩
theorem madeR_len (l : List Ev) (rt : Int) (th : List Th) (n : Nat) : (madeR l rt th n).rows.length = n := by simp [madeR]
theorem onRow_err (f : Th → Int) (th : List Th) : rowErr ((th.length : Int) + 1) true (onRow f th) = 0 := by
  have hasc := told_asc (f := onB f th) (k := th.length + 1)
  rw [List.pairwise_iff_getElem] at hasc
  refine rowErr_good (firstErr_zero fun k hk => ?_) (fun _ => ?_)
  · unfold onRow at hk ⊢
    have hm : ∀ j (hj : j < (told (onB f th) (th.length + 1)).length), 0 ≤ (told (onB f th) (th.length + 1))[j] ∧ (told (onB f th) (th.length + 1))[j] < (th.length : Int) + 1 := fun j hj => by
      obtain ⟨t, ht, h2, _⟩ := mem_told.1 (List.getElem_mem hj)
      rw [h2]
      omega
    have h0 := hm k hk
    exact numErr_good hk (by omega) (by omega) (fun h => hasc (k - 1) k (by omega) hk (by omega))
  · unfold onRow
    exact mem_told.2 ⟨0, by omega, rfl, by unfold onB; simp⟩
theorem madeR_err {l : List Ev} {rt : Int} {th : List Th} {n : Nat} (h1 : 1 ≤ th.length) (h2 : th.length ≤ 127) (hn : n ≤ 20000) : rollErr (madeR l rt th n) true = 0 := by
  refine rollErr_good ?_ (by rw [madeR_len]; exact hn) (fun j hj => ?_)
  · show ¬ ((th.length : Int) + 1 < 2 ∨ (th.length : Int) + 1 > 128)
    omega
  · have : (madeR l rt th n).rows[j] = onRow (onV (l.take (upN l ((j : Int) * rt)))) th := by simp [madeR]
    rw [this]
    exact onRow_err _ _
theorem madeR_trk {l : List Ev} {rt : Int} {th : List Th} {n k i : Nat} (hk : k < th.length) (hi : i < n) : trk (madeR l rt th n) (k + 1) i = decide (onV (l.take (upN l ((i : Int) * rt))) th[k] = 1) := by
  unfold trk
  rw [getD_at (by rw [madeR_len]; exact hi)]
  have : (madeR l rt th n).rows[i]'(by rw [madeR_len]; exact hi) = onRow (onV (l.take (upN l ((i : Int) * rt)))) th := by simp [madeR]
  rw [this]
  refine decide_eq_decide.2 ?_
  unfold onRow
  rw [mem_told]
  constructor
  · rintro ⟨t, ht, he, hb⟩
    have : t = k + 1 := by omega
    subst this
    unfold onB at hb
    rw [decide_eq_true_iff] at hb
    rcases hb with q | ⟨_, _, q⟩
    · omega
    · rwa [show k + 1 - 1 = k by omega, getD_at hk] at q
  · intro h
    refine ⟨k + 1, by omega, rfl, ?_⟩
    unfold onB
    rw [decide_eq_true_iff]
    exact .inr ⟨by omega, by omega, by rw [show k + 1 - 1 = k by omega, getD_at hk]; exact h⟩
theorem madeR_slots {l : List Ev} {rt : Int} {th : List Th} {n k : Nat} (hrt : 0 ≤ rt) (hk : k < th.length) : (slotsR (madeR l rt th n) (k + 1) 0).length ≤ l.length := by
  unfold slotsR
  rw [madeR_len]
  cases n with
  | zero => exact Nat.zero_le _
  | succ n =>
    have h1 := slots_starts (f := trk (madeR l rt th (n + 1)) (k + 1)) (n + 1)
    have h2 := starts_moves (l := l) (x := th[k]) hrt (f := trk (madeR l rt th (n + 1)) (k + 1)) (n := n + 1) (fun i hi => madeR_trk hk hi) n (by omega)
    have h3 := moves_le l th[k] (upN l ((n : Int) * rt))
    omega
theorem made_read {S : Sp} {l : List Ev} {rt : Int} {th : List Th} {n : Nat} (hsc : scE S rt th = 0) (hl : l.length ≤ 60) (hn : n ≤ 20000) {m : List Ev} {c : Int} (h : ReadP S (madeR l rt th n) rt th 1 0 m c) : c = 0 ∧ m.length ≤ 20000 ∧ PlOk rt th n (fun k => trk (madeR l rt th n) (k + 1)) m := by
  have so := scE_ok hsc
  have hrd : rdErr S (madeR l rt th n) rt th 1 0 = 0 := by
    unfold rdErr
    rw [madeR_err so.th1 so.th2 hn]
    simp [hsc, madeR]
  have hE : (evsR (madeR l rt th n) rt 1 0 th).length ≤ 20000 := by
    have h1 := evsT_lenR (rt := rt) (least := 1) (sl := fun t => slotsR (madeR l rt th n) t 0) (N := l.length) 1 th (fun j a b => by
      obtain ⟨k, rfl⟩ : ∃ k, j = k + 1 := ⟨j - 1, by omega⟩
      exact madeR_slots (by have := so.rt1; omega) (by omega))
    have h2 : 2 * l.length * th.length ≤ 2 * 60 * 127 := Nat.mul_le_mul (by omega) so.th2
    unfold evsR
    omega
  have hnt := evsR_noTie hrd
  unfold ReadP at h
  have hRd : RdP (evsR (madeR l rt th n) rt 1 0 th) m c := by
    rcases h with ⟨q, _⟩ | ⟨_, q⟩
    · exact absurd hrd q
    · exact q
  rcases hRd with ⟨q, _⟩ | ⟨_, hperm, hsort, hc⟩
  · omega
  · refine ⟨hc, by rw [hperm.length_eq]; exact hE, so.rt1, so.nodup, ?_, fun e => ?_, fun x hx => scOk_kind so hx⟩
    · have h2 := noTie_perm hnt hperm.symm
      refine (hsort.and h2).imp ?_
      rintro a b ⟨p, q⟩
      unfold evLe at p
      rcases Classical.em (evLt a b) with r | r
      · exact r
      · exact absurd (evTie_of r p) q
    · rw [hperm.mem_iff]
      unfold evsR
      rw [mem_evsT_iff]
      constructor
      · rintro ⟨k, hk, he⟩
        obtain ⟨s, hs, hes⟩ := (mem_evsL_iff (fun s hs => (slotsP_in s hs).1)).1 he
        refine ⟨k, hk, s, ?_, hes⟩
        rw [madeR_len, show 1 + k = k + 1 by omega] at hs
        exact hs
      · rintro ⟨k, hk, s, hs, hes⟩
        refine ⟨k, hk, (mem_evsL_iff (fun s hs => (slotsP_in s hs).1)).2 ⟨s, ?_, hes⟩⟩
        rw [madeR_len, show 1 + k = k + 1 by omega]
        exact hs
/-- At the tick of each row the same is on. -/
theorem made_agree {l : List Ev} {rt : Int} {th : List Th} {n : Nat} {m : List Ev} (h : PlOk rt th n (fun k => trk (madeR l rt th n) (k + 1)) m) (hpl : ∀ x ∈ l, Placed x) (hin : ∀ x ∈ l, x.2.1 ≤ 3 → thing x ∈ th) {i : Nat} (hi : i < n) {t : Th} (ht : t.1 ≤ 3) : onV (m.take (upN m ((i : Int) * rt))) t = onV (l.take (upN l ((i : Int) * rt))) t := by
  by_cases hm : t ∈ th
  · obtain ⟨k, hk, rfl⟩ := List.getElem_of_mem hm
    rw [h.row hk hi (asc_take h.asc _) (fun e => take_tick h.asc), madeR_trk hk hi]
    have hb := bin_onV rfl (fun x (hx : x ∈ l.take (upN l ((i : Int) * rt))) => hpl x (List.mem_of_mem_take hx)) th[k] (by omega)
    rcases hb with q | q
    · rw [q]; rfl
    · rw [q]; rfl
  · rw [onV_zero rfl (fun e he hx => absurd (by rw [← hx]; exact (h.kinds (List.mem_of_mem_take he)).2.2) hm), onV_zero rfl (fun e he hx => ?_)]
    refine absurd ?_ hm
    rw [← hx]
    exact hin e (List.mem_of_mem_take he) (by rw [← hx] at ht; exact ht)
end
section
open Go.RowKit
theorem number_f (w : World) : Calls Tryz.prog 112 #[.bool false] w fun e w' => e = .returned (.int .i64 0) ∧ w = w' := by
  go_enter Tryz.func112, Tryz.ntmps112
  go_wp2
  go_ret
  exact ⟨rfl, rfl⟩
theorem number_t (w : World) : Calls Tryz.prog 112 #[.bool true] w fun e w' => e = .returned (.int .i64 1) ∧ w = w' := by
  go_enter Tryz.func112, Tryz.ntmps112
  go_wp2
  go_ret
  exact ⟨rfl, rfl⟩
/-- The changes so far. -/
structure ChI (T : Int) (f g : Th → Int) (w : World) (A B : Nat) (ca cb : Array Value) (i : Nat) (v : Value) (wr : World) : Prop where
  row : wr.ownsRow w.heap.size 68 5 v (chgN T f g i).length ((chgN T f g i).map evC).flatten
  a : Blk wr A 59 ca
  b : Blk wr B 59 cb
  w : Below w.heap.size w wr
section
variable {T : Int} {f g : Th → Int} {w : World} {A B : Nat} {ca cb : Array Value} {i : Nat} {v : Value} {wr : World}
theorem ChI.to (h : ChI T f g w A B ca cb i v wr) {j : Nat} (e : i = j) : ChI T f g w A B ca cb j v wr := by subst e; exact h
theorem ChI.below (h : ChI T f g w A B ca cb i v wr) {w' : World} (hb : Below wr.heap.size wr w') : ChI T f g w A B ca cb i v w' := ⟨row_later h.row hb, h.a.below hb, h.b.below hb, below_step h.w hb⟩
theorem ChI.skip (h : ChI T f g w A B ca cb i v wr) (e : f (thOf i) = g (thOf i)) : ChI T f g w A B ca cb (i + 1) v wr := by
  refine ⟨?_, h.a, h.b, h.w⟩
  have : chgN T f g (i + 1) = chgN T f g i := by rw [chgN, if_pos e, List.append_nil]
  rw [this]
  exact h.row
theorem ChI.push (h : ChI T f g w A B ca cb i v wr) (e : f (thOf i) ≠ g (thOf i)) {x : Ev} (hx : x = (T, (thOf i).1, (thOf i).2.1, (thOf i).2.2, g (thOf i))) {o : Obj} {w3 : World} {gg cap n : Nat} (hn : n = (chgN T f g i).length + 1) (hg : (wr.alloc o).grownBy w3 v.ownBlock) (hown : w3.ownsRow w.heap.size 68 5 (.slice (some ⟨gg, 0, none⟩) n cap) n (((chgN T f g i).map evC).flatten ++ [.int .i64 x.1, .int .i64 x.2.1, .int .i64 x.2.2.1, .int .i64 x.2.2.2.1, .int .i64 x.2.2.2.2])) : ChI T f g w A B ca cb (i + 1) (.slice (some ⟨gg, 0, none⟩) n cap) w3 := by
  have hal : Below wr.heap.size wr (wr.alloc o) := (Below.refl _ _).alloc (Nat.le_refl _) _
  have h0 := h.below hal
  have e2 : chgN T f g (i + 1) = chgN T f g i ++ [x] := by rw [chgN, if_neg e, hx]
  refine ⟨?_, h0.a.grown hg (blk_ne_row h0.a h0.row (by decide)), h0.b.grown hg (blk_ne_row h0.b h0.row (by decide)), h0.w.grown hg h0.w.size (fun j e => row_ge h0.row e)⟩
  rw [e2, List.length_append, List.length_singleton, ← hn, List.map_append, List.flatten_append]
  exact hown
end
theorem bin_eq {a b : Int} (ha : a = 0 ∨ a = 1) (hb : b = 0 ∨ b = 1) : a = b ↔ decide (a = 1) = decide (b = 1) := by
  rcases ha with rfl | rfl <;> rcases hb with rfl | rfl <;> decide
theorem bin_val {a : Int} (ha : a = 0 ∨ a = 1) {c : Bool} (h : decide (a = 1) = c) : a = if c = true then 1 else 0 := by
  rcases ha with rfl | rfl <;> subst h <;> rfl
set_option maxRecDepth 100000 in
set_option maxHeartbeats 12800000 in
theorem changes_any (T : Int) (ca cb : Array Value) (f g : Th → Int) (hf : OnI f ca) (hg : OnI g cb) (bf : Bin f) (bg : Bin g) (w : World) :
    Calls Tryz.prog 87 #[.int .i64 T, .agg ca, .agg cb] w fun e w' => ∃ v, e = .returned v ∧ w'.ownsRow w.heap.size 68 5 v (chgN T f g 876).length ((chgN T f g 876).map evC).flatten ∧ Below w.heap.size w w' := by
  have HF := Lib.hid hf
  have HG := Lib.hid hg
  have HBF := Lib.hid bf
  have HBG := Lib.hid bg
  have HI0 := Lib.hid (show ChI T f g w w.heap.size (w.heap.size + 1) ca cb (0 * 128) (.slice none 0 0) ((w.alloc (.cells ca 59)).alloc (.cells cb 59)) from ⟨World.ownsRow_nil _ _ _ _, (Blk.new w _ _).alloc _, by have := Blk.new (w.alloc (.cells ca 59)) 59 cb; rwa [World.size_alloc] at this, below_two w _ _⟩)
  obtain ⟨i0, hi0, hz0, hz1, hz2⟩ := info_parts ev_info
  clear hf hg bf bg
  go_enter Tryz.func87, Tryz.ntmps87
  go_upto_region 2 with fail
  generalize (w.alloc (.cells ca 59)).alloc (.cells cb 59) = W at *
  obtain ⟨A, hA⟩ : ∃ A, w.heap.size = A := ⟨_, rfl⟩
  obtain ⟨B, hB⟩ : ∃ B, w.heap.size + 1 = B := ⟨_, rfl⟩
  have HI1 := Lib.hid (show ChI T f g w A B ca cb (0 * 128) (.slice none 0 0) W by rw [← hA, ← hB]; exact HI0.out)
  rw [hB, hA]
  clear HI0 hA hB
  go_wp2
  go_loopw [7, 8] (fun u x wr => ∃ d : Nat, d ≤ 6 ∧ x = .int .i64 d ∧ RowKit.Hid (ChI T f g w A B ca cb (d * 128) u wr)) (fun _ x _ => 6 - (intOf x).toNat)
  case atStart => exact ⟨0, by omega, rfl, HI1⟩
  clear HI1
  obtain ⟨d, hd, rfl, hI⟩ := hrel
  by_cases hd6 : d < 6
  · have hd2 : (d : Int) < 6 := by omega
    go_wp2
    go_loopw [7, 9] (fun u x wr => ∃ n : Nat, n ≤ 128 ∧ x = .int .i64 n ∧ RowKit.Hid (ChI T f g w A B ca cb (d * 128 + n) u wr)) (fun _ x _ => 128 - (intOf x).toNat)
    case atStart => exact ⟨0, by omega, rfl, hI⟩
    clear hI
    obtain ⟨n, hn, rfl, hI⟩ := hrel
    by_cases hn8 : n < 128
    · have hn2 : (n : Int) ≤ 127 := by omega
      have hn3 : (n : Int) < 128 := by omega
      have HTH := Lib.hid (show thOf (d * 128 + n) = (1, (d : Int), (n : Int)) by unfold thOf; rw [if_pos (by omega), show (d * 128 + n) / 128 = d by omega, show (d * 128 + n) % 128 = n by omega])
      obtain ⟨fa, hfa⟩ : ∃ fa, f (thOf (d * 128 + n)) = fa := ⟨_, rfl⟩
      obtain ⟨ga, hga⟩ : ∃ ga, g (thOf (d * 128 + n)) = ga := ⟨_, rfl⟩
      have hbf := HBF.out (thOf (d * 128 + n)) (by rw [HTH.out]; simp)
      have hbg := HBG.out (thOf (d * 128 + n)) (by rw [HTH.out]; simp)
      rw [hfa] at hbf
      rw [hga] at hbg
      have qA : wr.cell? ⟨A, d * 128 + n, none⟩ = some (.bool (decide (fa = 1))) := by
        have q := (hI.out.a.cell (d * 128 + n)).trans (HF.out.val _ _ (thOf_ix (i := d * 128 + n) (by omega)))
        rw [hfa] at q
        rw [q, HTH.out]
        rfl
      have qB : wr.cell? ⟨B, d * 128 + n, none⟩ = some (.bool (decide (ga = 1))) := by
        have q := (hI.out.b.cell (d * 128 + n)).trans (HG.out.val _ _ (thOf_ix (i := d * 128 + n) (by omega)))
        rw [hga] at q
        rw [q, HTH.out]
        rfl
      have HFA := Lib.hid hfa
      have HGA := Lib.hid hga
      clear hfa hga
      have hle := chgN_len T f g (d * 128 + n)
      obtain ⟨ua, uc, rfl⟩ := own_form hI.out.row
      have HEQ := Lib.hid (bin_eq hbf hbg)
      obtain ⟨x1, hx1⟩ : ∃ x1, decide (fa = 1) = x1 := ⟨_, rfl⟩
      obtain ⟨x2, hx2⟩ : ∃ x2, decide (ga = 1) = x2 := ⟨_, rfl⟩
      have HV2 := Lib.hid (bin_val hbg hx2)
      rw [hx1, hx2] at HEQ
      rw [hx1] at qA
      rw [hx2] at qB
      clear hx1 hx2 hbf hbg
      by_cases hxx : x1 = x2
      · have HE := Lib.hid (HEQ.out.2 hxx)
        have hnb : (x1 == x2) = true := beq_iff_eq.2 hxx
        clear hxx
        go_wp2_with fail
        go_quiet (fail)
        go_wp2
        go_roundw
        case rel => exact ⟨n + 1, by omega, by go_num, Lib.hid (((hI.out.below (below_drewN (Below.refl _ _) nq)).skip (by rw [HFA.out, HGA.out]; exact HE.out)).to (by omega))⟩
        case measure => simp [intOf]; omega
      · have HE := Lib.hid (fun q => hxx (HEQ.out.1 q))
        clear HEQ
        cases x2 with
        | false =>
          obtain rfl : x1 = true := by cases x1 <;> first | rfl | exact absurd rfl hxx
          clear hxx
          go_wp2_with fail
          go_quiet (fail)
          obtain ⟨Wq, hWq⟩ : ∃ Wq, wr.drewN nq = Wq := ⟨_, rfl⟩
          have HIQ := Lib.hid (show ChI T f g w A B ca cb _ _ Wq by rw [← hWq]; exact hI.out.below (below_drewN (Below.refl _ _) nq))
          have qB2 : Wq.cell? ⟨B, d * 128 + n, none⟩ = some (.bool false) := by rw [← hWq]; exact qB
          rw [hWq]
          clear hWq qA qB hI
          have HROW := Lib.hid HIQ.out.row
          have hsz := HIQ.out.w.size
          go_wp2_with first | (go_at_call 112; refine (number_f _).mono ?_; rintro e w9 ⟨rfl, rfl⟩) | (at_builtin; refine wpList_append_lies _ rfl _ _ 28 rfl w.heap.size 68 i0 _ 5 40 Tryz.underlying28 hi0 hz0 hz1 hz2 rfl (by omega) _ _ _ rfl (HROW.out.alloc _) ⟨Wq.heap.size, 0, none⟩ 1 1 [.int .i64 T, .int .i64 1, .int .i64 (d : Int), .int .i64 (n : Int), .int .i64 0] rfl rfl (World.news_of_block (cs := #[.int .i64 T, .int .i64 1, .int .i64 (d : Int), .int .i64 (n : Int), .int .i64 0]) (t := 68) (fr := (0, 0)) (heap_alloc_new Wq _)) (by simp [Value.oneCell']) (by omega) (by unfold maxLen; omega) (by omega) (by simp; omega) (Wq.heap.size + 1) (by simp) ?_; intro gg cap3 w3 hown3 hgrow hat3 hlt3)
          have HP := Lib.hid ((HIQ.out.push (x := (T, 1, (d : Int), (n : Int), 0)) (by rw [HFA.out, HGA.out]; exact HE.out) (by rw [HGA.out, HTH.out]; rw [HV2.out]; rfl) rfl hgrow hown3).to (show d * 128 + n + 1 = d * 128 + (n + 1) by omega))
          exact ⟨⟨n + 1, by omega, by go_num, HP⟩, by simp [intOf]; omega⟩
        | true =>
          obtain rfl : x1 = false := by cases x1 <;> first | rfl | exact absurd rfl hxx
          clear hxx
          go_wp2_with fail
          go_quiet (fail)
          obtain ⟨Wq, hWq⟩ : ∃ Wq, wr.drewN nq = Wq := ⟨_, rfl⟩
          have HIQ := Lib.hid (show ChI T f g w A B ca cb _ _ Wq by rw [← hWq]; exact hI.out.below (below_drewN (Below.refl _ _) nq))
          have qB2 : Wq.cell? ⟨B, d * 128 + n, none⟩ = some (.bool true) := by rw [← hWq]; exact qB
          rw [hWq]
          clear hWq qA qB hI
          have HROW := Lib.hid HIQ.out.row
          have hsz := HIQ.out.w.size
          go_wp2_with first | (go_at_call 112; refine (number_t _).mono ?_; rintro e w9 ⟨rfl, rfl⟩) | (at_builtin; refine wpList_append_lies _ rfl _ _ 28 rfl w.heap.size 68 i0 _ 5 40 Tryz.underlying28 hi0 hz0 hz1 hz2 rfl (by omega) _ _ _ rfl (HROW.out.alloc _) ⟨Wq.heap.size, 0, none⟩ 1 1 [.int .i64 T, .int .i64 1, .int .i64 (d : Int), .int .i64 (n : Int), .int .i64 1] rfl rfl (World.news_of_block (cs := #[.int .i64 T, .int .i64 1, .int .i64 (d : Int), .int .i64 (n : Int), .int .i64 1]) (t := 68) (fr := (0, 0)) (heap_alloc_new Wq _)) (by simp [Value.oneCell']) (by omega) (by unfold maxLen; omega) (by omega) (by simp; omega) (Wq.heap.size + 1) (by simp) ?_; intro gg cap3 w3 hown3 hgrow hat3 hlt3)
          have HP := Lib.hid ((HIQ.out.push (x := (T, 1, (d : Int), (n : Int), 1)) (by rw [HFA.out, HGA.out]; exact HE.out) (by rw [HGA.out, HTH.out]; rw [HV2.out]; rfl) rfl hgrow hown3).to (show d * 128 + n + 1 = d * 128 + (n + 1) by omega))
          exact ⟨⟨n + 1, by omega, by go_num, HP⟩, by simp [intOf]; omega⟩
    · have hn2 : ¬ (n : Int) ≤ 127 := by omega
      go_wp2
      go_roundw
      case rel => exact ⟨d + 1, by omega, by go_num, Lib.hid (hI.out.to (by omega))⟩
      case measure => simp [intOf]; omega
  · have hd2 : ¬ (d : Int) < 6 := by omega
    have HI2 := Lib.hid (hI.out.to (show d * 128 = 768 + 0 by omega))
    clear hI
    go_wp2
    go_loopw [7, 10] (fun u x wr => ∃ n : Nat, n ≤ 80 ∧ x = .int .i64 n ∧ RowKit.Hid (ChI T f g w A B ca cb (768 + n) u wr)) (fun _ x _ => 80 - (intOf x).toNat)
    case atStart => exact ⟨0, by omega, rfl, HI2⟩
    clear HI2
    obtain ⟨n, hn, rfl, hI⟩ := hrel
    by_cases hn8 : n < 80
    · have hn2 : (n : Int) < 80 := by omega
      have HTH := Lib.hid (show thOf (768 + n) = (2, 0, (n : Int)) by unfold thOf; rw [if_neg (by omega), if_pos (by omega), show 768 + n - 768 = n by omega])
      obtain ⟨fa, hfa⟩ : ∃ fa, f (thOf (768 + n)) = fa := ⟨_, rfl⟩
      obtain ⟨ga, hga⟩ : ∃ ga, g (thOf (768 + n)) = ga := ⟨_, rfl⟩
      have hbf := HBF.out (thOf (768 + n)) (by rw [HTH.out]; simp)
      have hbg := HBG.out (thOf (768 + n)) (by rw [HTH.out]; simp)
      rw [hfa] at hbf
      rw [hga] at hbg
      have qA : wr.cell? ⟨A, 768 + n, none⟩ = some (.bool (decide (fa = 1))) := by
        have q := (hI.out.a.cell (768 + n)).trans (HF.out.val _ _ (thOf_ix (i := 768 + n) (by omega)))
        rw [hfa] at q
        rw [q, HTH.out]
        rfl
      have qB : wr.cell? ⟨B, 768 + n, none⟩ = some (.bool (decide (ga = 1))) := by
        have q := (hI.out.b.cell (768 + n)).trans (HG.out.val _ _ (thOf_ix (i := 768 + n) (by omega)))
        rw [hga] at q
        rw [q, HTH.out]
        rfl
      have HFA := Lib.hid hfa
      have HGA := Lib.hid hga
      clear hfa hga
      have hle := chgN_len T f g (768 + n)
      obtain ⟨ua, uc, rfl⟩ := own_form hI.out.row
      have HEQ := Lib.hid (bin_eq hbf hbg)
      obtain ⟨x1, hx1⟩ : ∃ x1, decide (fa = 1) = x1 := ⟨_, rfl⟩
      obtain ⟨x2, hx2⟩ : ∃ x2, decide (ga = 1) = x2 := ⟨_, rfl⟩
      have HV2 := Lib.hid (bin_val hbg hx2)
      rw [hx1, hx2] at HEQ
      rw [hx1] at qA
      rw [hx2] at qB
      clear hx1 hx2 hbf hbg
      by_cases hxx : x1 = x2
      · have HE := Lib.hid (HEQ.out.2 hxx)
        have hnb : (x1 == x2) = true := beq_iff_eq.2 hxx
        clear hxx
        go_wp2_with fail
        go_quiet (fail)
        go_wp2
        go_roundw
        case rel => exact ⟨n + 1, by omega, by go_num, Lib.hid (((hI.out.below (below_drewN (Below.refl _ _) nq)).skip (by rw [HFA.out, HGA.out]; exact HE.out)).to (by omega))⟩
        case measure => simp [intOf]; omega
      · have HE := Lib.hid (fun q => hxx (HEQ.out.1 q))
        clear HEQ
        cases x2 with
        | false =>
          obtain rfl : x1 = true := by cases x1 <;> first | rfl | exact absurd rfl hxx
          clear hxx
          go_wp2_with fail
          go_quiet (fail)
          obtain ⟨Wq, hWq⟩ : ∃ Wq, wr.drewN nq = Wq := ⟨_, rfl⟩
          have HIQ := Lib.hid (show ChI T f g w A B ca cb _ _ Wq by rw [← hWq]; exact hI.out.below (below_drewN (Below.refl _ _) nq))
          have qB2 : Wq.cell? ⟨B, 768 + n, none⟩ = some (.bool false) := by rw [← hWq]; exact qB
          rw [hWq]
          clear hWq qA qB hI
          have HROW := Lib.hid HIQ.out.row
          have hsz := HIQ.out.w.size
          go_wp2_with first | (go_at_call 112; refine (number_f _).mono ?_; rintro e w9 ⟨rfl, rfl⟩) | (at_builtin; refine wpList_append_lies _ rfl _ _ 28 rfl w.heap.size 68 i0 _ 5 40 Tryz.underlying28 hi0 hz0 hz1 hz2 rfl (by omega) _ _ _ rfl (HROW.out.alloc _) ⟨Wq.heap.size, 0, none⟩ 1 1 [.int .i64 T, .int .i64 2, .int .i64 0, .int .i64 (n : Int), .int .i64 0] rfl rfl (World.news_of_block (cs := #[.int .i64 T, .int .i64 2, .int .i64 0, .int .i64 (n : Int), .int .i64 0]) (t := 68) (fr := (0, 0)) (heap_alloc_new Wq _)) (by simp [Value.oneCell']) (by omega) (by unfold maxLen; omega) (by omega) (by simp; omega) (Wq.heap.size + 1) (by simp) ?_; intro gg cap3 w3 hown3 hgrow hat3 hlt3)
          have HP := Lib.hid ((HIQ.out.push (x := (T, 2, 0, (n : Int), 0)) (by rw [HFA.out, HGA.out]; exact HE.out) (by rw [HGA.out, HTH.out]; rw [HV2.out]; rfl) rfl hgrow hown3).to (show 768 + n + 1 = 768 + (n + 1) by omega))
          exact ⟨⟨n + 1, by omega, by go_num, HP⟩, by simp [intOf]; omega⟩
        | true =>
          obtain rfl : x1 = false := by cases x1 <;> first | rfl | exact absurd rfl hxx
          clear hxx
          go_wp2_with fail
          go_quiet (fail)
          obtain ⟨Wq, hWq⟩ : ∃ Wq, wr.drewN nq = Wq := ⟨_, rfl⟩
          have HIQ := Lib.hid (show ChI T f g w A B ca cb _ _ Wq by rw [← hWq]; exact hI.out.below (below_drewN (Below.refl _ _) nq))
          have qB2 : Wq.cell? ⟨B, 768 + n, none⟩ = some (.bool true) := by rw [← hWq]; exact qB
          rw [hWq]
          clear hWq qA qB hI
          have HROW := Lib.hid HIQ.out.row
          have hsz := HIQ.out.w.size
          go_wp2_with first | (go_at_call 112; refine (number_t _).mono ?_; rintro e w9 ⟨rfl, rfl⟩) | (at_builtin; refine wpList_append_lies _ rfl _ _ 28 rfl w.heap.size 68 i0 _ 5 40 Tryz.underlying28 hi0 hz0 hz1 hz2 rfl (by omega) _ _ _ rfl (HROW.out.alloc _) ⟨Wq.heap.size, 0, none⟩ 1 1 [.int .i64 T, .int .i64 2, .int .i64 0, .int .i64 (n : Int), .int .i64 1] rfl rfl (World.news_of_block (cs := #[.int .i64 T, .int .i64 2, .int .i64 0, .int .i64 (n : Int), .int .i64 1]) (t := 68) (fr := (0, 0)) (heap_alloc_new Wq _)) (by simp [Value.oneCell']) (by omega) (by unfold maxLen; omega) (by omega) (by simp; omega) (Wq.heap.size + 1) (by simp) ?_; intro gg cap3 w3 hown3 hgrow hat3 hlt3)
          have HP := Lib.hid ((HIQ.out.push (x := (T, 2, 0, (n : Int), 1)) (by rw [HFA.out, HGA.out]; exact HE.out) (by rw [HGA.out, HTH.out]; rw [HV2.out]; rfl) rfl hgrow hown3).to (show 768 + n + 1 = 768 + (n + 1) by omega))
          exact ⟨⟨n + 1, by omega, by go_num, HP⟩, by simp [intOf]; omega⟩
    · have hn2 : ¬ (n : Int) < 80 := by omega
      have HI2 := Lib.hid (hI.out.to (show 768 + n = 848 + 0 by omega))
      clear hI
      go_wp2
      go_loopw [7, 11] (fun u x wr => ∃ n : Nat, n ≤ 24 ∧ x = .int .i64 n ∧ RowKit.Hid (ChI T f g w A B ca cb (848 + n) u wr)) (fun _ x _ => 24 - (intOf x).toNat)
      case atStart => exact ⟨0, by omega, rfl, HI2⟩
      clear HI2
      obtain ⟨n, hn, rfl, hI⟩ := hrel
      by_cases hn8 : n < 24
      · have hn2 : (n : Int) < 24 := by omega
        have HTH := Lib.hid (show thOf (848 + n) = (3, 0, (n : Int)) by unfold thOf; rw [if_neg (by omega), if_neg (by omega), if_pos (by omega), show 848 + n - 848 = n by omega])
        obtain ⟨fa, hfa⟩ : ∃ fa, f (thOf (848 + n)) = fa := ⟨_, rfl⟩
        obtain ⟨ga, hga⟩ : ∃ ga, g (thOf (848 + n)) = ga := ⟨_, rfl⟩
        have hbf := HBF.out (thOf (848 + n)) (by rw [HTH.out]; simp)
        have hbg := HBG.out (thOf (848 + n)) (by rw [HTH.out]; simp)
        rw [hfa] at hbf
        rw [hga] at hbg
        have qA : wr.cell? ⟨A, 848 + n, none⟩ = some (.bool (decide (fa = 1))) := by
          have q := (hI.out.a.cell (848 + n)).trans (HF.out.val _ _ (thOf_ix (i := 848 + n) (by omega)))
          rw [hfa] at q
          rw [q, HTH.out]
          rfl
        have qB : wr.cell? ⟨B, 848 + n, none⟩ = some (.bool (decide (ga = 1))) := by
          have q := (hI.out.b.cell (848 + n)).trans (HG.out.val _ _ (thOf_ix (i := 848 + n) (by omega)))
          rw [hga] at q
          rw [q, HTH.out]
          rfl
        have HFA := Lib.hid hfa
        have HGA := Lib.hid hga
        clear hfa hga
        have hle := chgN_len T f g (848 + n)
        obtain ⟨ua, uc, rfl⟩ := own_form hI.out.row
        have HEQ := Lib.hid (bin_eq hbf hbg)
        obtain ⟨x1, hx1⟩ : ∃ x1, decide (fa = 1) = x1 := ⟨_, rfl⟩
        obtain ⟨x2, hx2⟩ : ∃ x2, decide (ga = 1) = x2 := ⟨_, rfl⟩
        have HV2 := Lib.hid (bin_val hbg hx2)
        rw [hx1, hx2] at HEQ
        rw [hx1] at qA
        rw [hx2] at qB
        clear hx1 hx2 hbf hbg
        by_cases hxx : x1 = x2
        · have HE := Lib.hid (HEQ.out.2 hxx)
          have hnb : (x1 == x2) = true := beq_iff_eq.2 hxx
          clear hxx
          go_wp2_with fail
          go_quiet (fail)
          go_wp2
          go_roundw
          case rel => exact ⟨n + 1, by omega, by go_num, Lib.hid (((hI.out.below (below_drewN (Below.refl _ _) nq)).skip (by rw [HFA.out, HGA.out]; exact HE.out)).to (by omega))⟩
          case measure => simp [intOf]; omega
        · have HE := Lib.hid (fun q => hxx (HEQ.out.1 q))
          clear HEQ
          cases x2 with
          | false =>
            obtain rfl : x1 = true := by cases x1 <;> first | rfl | exact absurd rfl hxx
            clear hxx
            go_wp2_with fail
            go_quiet (fail)
            obtain ⟨Wq, hWq⟩ : ∃ Wq, wr.drewN nq = Wq := ⟨_, rfl⟩
            have HIQ := Lib.hid (show ChI T f g w A B ca cb _ _ Wq by rw [← hWq]; exact hI.out.below (below_drewN (Below.refl _ _) nq))
            have qB2 : Wq.cell? ⟨B, 848 + n, none⟩ = some (.bool false) := by rw [← hWq]; exact qB
            rw [hWq]
            clear hWq qA qB hI
            have HROW := Lib.hid HIQ.out.row
            have hsz := HIQ.out.w.size
            go_wp2_with first | (go_at_call 112; refine (number_f _).mono ?_; rintro e w9 ⟨rfl, rfl⟩) | (at_builtin; refine wpList_append_lies _ rfl _ _ 28 rfl w.heap.size 68 i0 _ 5 40 Tryz.underlying28 hi0 hz0 hz1 hz2 rfl (by omega) _ _ _ rfl (HROW.out.alloc _) ⟨Wq.heap.size, 0, none⟩ 1 1 [.int .i64 T, .int .i64 3, .int .i64 0, .int .i64 (n : Int), .int .i64 0] rfl rfl (World.news_of_block (cs := #[.int .i64 T, .int .i64 3, .int .i64 0, .int .i64 (n : Int), .int .i64 0]) (t := 68) (fr := (0, 0)) (heap_alloc_new Wq _)) (by simp [Value.oneCell']) (by omega) (by unfold maxLen; omega) (by omega) (by simp; omega) (Wq.heap.size + 1) (by simp) ?_; intro gg cap3 w3 hown3 hgrow hat3 hlt3)
            have HP := Lib.hid ((HIQ.out.push (x := (T, 3, 0, (n : Int), 0)) (by rw [HFA.out, HGA.out]; exact HE.out) (by rw [HGA.out, HTH.out]; rw [HV2.out]; rfl) rfl hgrow hown3).to (show 848 + n + 1 = 848 + (n + 1) by omega))
            exact ⟨⟨n + 1, by omega, by go_num, HP⟩, by simp [intOf]; omega⟩
          | true =>
            obtain rfl : x1 = false := by cases x1 <;> first | rfl | exact absurd rfl hxx
            clear hxx
            go_wp2_with fail
            go_quiet (fail)
            obtain ⟨Wq, hWq⟩ : ∃ Wq, wr.drewN nq = Wq := ⟨_, rfl⟩
            have HIQ := Lib.hid (show ChI T f g w A B ca cb _ _ Wq by rw [← hWq]; exact hI.out.below (below_drewN (Below.refl _ _) nq))
            have qB2 : Wq.cell? ⟨B, 848 + n, none⟩ = some (.bool true) := by rw [← hWq]; exact qB
            rw [hWq]
            clear hWq qA qB hI
            have HROW := Lib.hid HIQ.out.row
            have hsz := HIQ.out.w.size
            go_wp2_with first | (go_at_call 112; refine (number_t _).mono ?_; rintro e w9 ⟨rfl, rfl⟩) | (at_builtin; refine wpList_append_lies _ rfl _ _ 28 rfl w.heap.size 68 i0 _ 5 40 Tryz.underlying28 hi0 hz0 hz1 hz2 rfl (by omega) _ _ _ rfl (HROW.out.alloc _) ⟨Wq.heap.size, 0, none⟩ 1 1 [.int .i64 T, .int .i64 3, .int .i64 0, .int .i64 (n : Int), .int .i64 1] rfl rfl (World.news_of_block (cs := #[.int .i64 T, .int .i64 3, .int .i64 0, .int .i64 (n : Int), .int .i64 1]) (t := 68) (fr := (0, 0)) (heap_alloc_new Wq _)) (by simp [Value.oneCell']) (by omega) (by unfold maxLen; omega) (by omega) (by simp; omega) (Wq.heap.size + 1) (by simp) ?_; intro gg cap3 w3 hown3 hgrow hat3 hlt3)
            have HP := Lib.hid ((HIQ.out.push (x := (T, 3, 0, (n : Int), 1)) (by rw [HFA.out, HGA.out]; exact HE.out) (by rw [HGA.out, HTH.out]; rw [HV2.out]; rfl) rfl hgrow hown3).to (show 848 + n + 1 = 848 + (n + 1) by omega))
            exact ⟨⟨n + 1, by omega, by go_num, HP⟩, by simp [intOf]; omega⟩
      · have hn2 : ¬ (n : Int) < 24 := by omega
        have HI2 := Lib.hid (hI.out.to (show 848 + n = 872 + 0 by omega))
        clear hI
        go_wp2
        go_loopw [7, 12] (fun u x wr => ∃ n : Nat, n ≤ 4 ∧ x = .int .i64 n ∧ RowKit.Hid (ChI T f g w A B ca cb (872 + n) u wr)) (fun _ x _ => 4 - (intOf x).toNat)
        case atStart => exact ⟨0, by omega, rfl, HI2⟩
        clear HI2
        obtain ⟨n, hn, rfl, hI⟩ := hrel
        by_cases hn8 : n < 4
        · have hn2 : (n : Int) < 4 := by omega
          have HTH := Lib.hid (show thOf (872 + n) = (4, 0, (n : Int)) by unfold thOf; rw [if_neg (by omega), if_neg (by omega), if_neg (by omega), show 872 + n - 872 = n by omega])
          obtain ⟨fa, hfa⟩ : ∃ fa, f (thOf (872 + n)) = fa := ⟨_, rfl⟩
          obtain ⟨ga, hga⟩ : ∃ ga, g (thOf (872 + n)) = ga := ⟨_, rfl⟩
          have qA : wr.cell? ⟨A, 872 + n, none⟩ = some (.int .i64 fa) := by
            have q := (hI.out.a.cell (872 + n)).trans (HF.out.val _ _ (thOf_ix (i := 872 + n) (by omega)))
            rw [hfa] at q
            rw [q, HTH.out]
            rfl
          have qB : wr.cell? ⟨B, 872 + n, none⟩ = some (.int .i64 ga) := by
            have q := (hI.out.b.cell (872 + n)).trans (HG.out.val _ _ (thOf_ix (i := 872 + n) (by omega)))
            rw [hga] at q
            rw [q, HTH.out]
            rfl
          have HFA := Lib.hid hfa
          have HGA := Lib.hid hga
          clear hfa hga
          have hle := chgN_len T f g (872 + n)
          obtain ⟨ua, uc, rfl⟩ := own_form hI.out.row
          by_cases hxx : fa = ga
          · have HE := Lib.hid hxx
            have hnb : (fa == ga) = true := beq_iff_eq.2 hxx
            clear hxx
            go_wp2_with fail
            go_quiet (fail)
            go_wp2
            go_roundw
            case rel => exact ⟨n + 1, by omega, by go_num, Lib.hid (((hI.out.below (below_drewN (Below.refl _ _) nq)).skip (by rw [HFA.out, HGA.out]; exact HE.out)).to (by omega))⟩
            case measure => simp [intOf]; omega
          · have hnb : (fa == ga) = false := beq_eq_false_iff_ne.2 hxx
            have HE := Lib.hid hxx
            clear hxx
            go_wp2_with fail
            go_quiet (fail)
            obtain ⟨Wq, hWq⟩ : ∃ Wq, wr.drewN nq = Wq := ⟨_, rfl⟩
            have HIQ := Lib.hid (show ChI T f g w A B ca cb _ _ Wq by rw [← hWq]; exact hI.out.below (below_drewN (Below.refl _ _) nq))
            have qB2 : Wq.cell? ⟨B, 872 + n, none⟩ = some (.int .i64 ga) := by rw [← hWq]; exact qB
            rw [hWq]
            clear hWq qA qB hI
            have HROW := Lib.hid HIQ.out.row
            have hsz := HIQ.out.w.size
            go_wp2_with (at_builtin; refine wpList_append_lies _ rfl _ _ 28 rfl w.heap.size 68 i0 _ 5 40 Tryz.underlying28 hi0 hz0 hz1 hz2 rfl (by omega) _ _ _ rfl (HROW.out.alloc _) ⟨Wq.heap.size, 0, none⟩ 1 1 [.int .i64 T, .int .i64 4, .int .i64 0, .int .i64 (n : Int), .int .i64 ga] rfl rfl (World.news_of_block (cs := #[.int .i64 T, .int .i64 4, .int .i64 0, .int .i64 (n : Int), .int .i64 ga]) (t := 68) (fr := (0, 0)) (heap_alloc_new Wq _)) (by simp [Value.oneCell']) (by omega) (by unfold maxLen; omega) (by omega) (by simp; omega) (Wq.heap.size + 1) (by simp) ?_; intro gg cap3 w3 hown3 hgrow hat3 hlt3)
            have HP := Lib.hid ((HIQ.out.push (x := (T, 4, 0, (n : Int), ga)) (by rw [HFA.out, HGA.out]; exact HE.out) (by rw [HGA.out, HTH.out]) rfl hgrow hown3).to (show 872 + n + 1 = 872 + (n + 1) by omega))
            exact ⟨⟨n + 1, by omega, by go_num, HP⟩, by simp [intOf]; omega⟩
        · have hn2 : ¬ (n : Int) < 4 := by omega
          have HI2 := Lib.hid (hI.out.to (show 872 + n = 876 by omega))
          clear hI
          go_wp2
          go_ret
          exact ⟨_, rfl, HI2.out.row, HI2.out.w⟩
end
section
open Go.RowKit
theorem evC_flat (l : List Ev) : ((l.map evC).flatten).length = l.length * 5 := by
  rw [flat_len (k := 5) (l.map evC) (fun r hr => by obtain ⟨x, _, rfl⟩ := List.mem_map.1 hr; rfl), List.length_map]
theorem evC_one (l : List Ev) : ∀ u ∈ (l.map evC).flatten, u.oneCell' = true := fun u hu => by
  obtain ⟨r, hr, h⟩ := List.mem_flatten.1 hu
  obtain ⟨x, _, rfl⟩ := List.mem_map.1 hr
  simp only [evC, List.mem_cons, List.mem_nil_iff, or_false] at h
  rcases h with rfl | rfl | rfl | rfl | rfl <;> rfl
/-- A row of events is appended to another one. -/
theorem append_ev (W : World) (base base2 : Nat) (V v : Value) (l E : List Ev) (hown : W.ownsRow base 68 5 V l.length (l.map evC).flatten) (hv : W.ownsRow base2 68 5 v E.length (E.map evC).flatten) (hl : l.length + E.length ≤ 1000000) (hb : base ≤ W.heap.size) :
    ∃ V' w', (Builtin.append_ #[28, 28] 28 #[V, v]).run Tryz.prog W = .ok V' w' ∧ w'.ownsRow base 68 5 V' (l ++ E).length ((l ++ E).map evC).flatten ∧ W.grownBy w' V.ownBlock := by
  obtain ⟨j0, hj0, jz0, jz1, jz2⟩ := info_parts ev_info
  rw [List.length_append, List.map_append, List.flatten_append]
  rcases hv.2 with ⟨rfl, h0⟩ | ⟨g, cap, cur, rfl, _, hg, _, _, _, hx⟩
  · have e : E = [] := List.length_eq_zero_iff.1 h0
    subst e
    refine ⟨V, W, ?_, by simpa using hown, World.grownBy.refl _ _⟩
    rcases hown.2 with ⟨rfl, _⟩ | ⟨g, cap, cur, rfl, _, _, hcap, _⟩
    · simp [Builtin.append_, run_underlying Tryz.underlying28, sizeOf, typeInfo, hj0, Builtin.lenOf, Builtin.firstCells]
    · simp [Builtin.append_, run_underlying Tryz.underlying28, sizeOf, typeInfo, hj0, Builtin.lenOf, Builtin.firstCells, hcap, storeCells]
  · obtain ⟨V', w', h2, h3, h4, _⟩ := run_append_own (P := Tryz.prog) W base 28 28 68 j0 _ 5 40 Tryz.underlying28 hj0 jz0 jz1 jz2 rfl (by omega) V l.length _ hown ⟨g, 0, none⟩ E.length cap (E.map evC).flatten (evC_flat E) (fun j u hu => by
      rw [Addr.add_lit, Nat.zero_add]
      simp only [World.cell?, hg]
      have hj := (List.getElem?_eq_some_iff.1 hu).1
      have h5 := congrArg (fun z : List Value => z[j]?) hx
      simp only [List.getElem?_take] at h5
      rw [if_pos (by rw [← evC_flat]; exact hj), hu] at h5
      simpa using h5) (evC_one E) (by unfold maxLen; omega) (by omega) hb
    exact ⟨V', w', h2, h3, h4⟩
/-- What tidied knows: the rows so far, the box of what is on. -/
structure TdI (m : List Ev) (w : World) (i j : Nat) (u : Value) (wr : World) : Prop where
  row : wr.ownsRow w.heap.size 68 5 u (m.take i).length ((m.take i).map evC).flatten
  o : OnX (onV (m.take j)) wr w.heap.size
  b : Below w.heap.size w wr
theorem TdI.below {m : List Ev} {w wr w' : World} {i j : Nat} {u : Value} (h : TdI m w i j u wr) (hb : Below wr.heap.size wr w') : TdI m w i j u w' := ⟨row_later h.row hb, h.o.below hb, below_step h.b hb⟩
theorem TdI.next {m : List Ev} {w wr W2 : World} {i j j' : Nat} {u : Value} {c c2 : Array Value} {f : Th → Int} (h : TdI m w i j u wr) (hc : Blk wr w.heap.size 59 c) (hf : OnI f c) (hb : Below wr.heap.size wr W2) (h2 : OnI (onV (m.take j')) c2) : TdI m w i j' u (W2.setCells w.heap.size 0 c2.toList) := by
  have h0 := h.below hb
  refine ⟨h0.row.kept (grown_cells _ _ _ _) (.inr (blk_ne_row (hc.below hb) h0.row (by decide))), OnX.put hc hf hb h2, h0.b.grown (grown_cells _ _ _ _) h0.b.size (fun k e => by cases e; exact Nat.le_refl _)⟩
theorem TdI.push {m : List Ev} {w wr w3 : World} {i j : Nat} {u u' : Value} (h : TdI m w i j u wr) (hg : wr.grownBy w3 u.ownBlock) {l : List Ev} (hown : w3.ownsRow w.heap.size 68 5 u' l.length (l.map evC).flatten) (hl : l = m.take j) : TdI m w j j u' w3 := by
  subst hl
  obtain ⟨c, h1, h2⟩ := h.o.ex
  exact ⟨hown, ⟨c, h1, h2.grown hg (blk_ne_row h2 h.row (by decide))⟩, h.b.grown hg h.b.size (fun k e => row_ge h.row e)⟩
set_option maxRecDepth 100000 in
set_option maxHeartbeats 6400000 in
theorem tidied_any (m : List Ev) (vm : Value) (w : World) (hl : m.length ≤ 100000) (hm : ARd w vm 5 (m.map evC)) (ht : TdOk m) :
    Calls Tryz.prog 54 #[vm] w fun e w' => ∃ v, e = .returned v ∧ w'.ownsRow w.heap.size 68 5 v m.length (m.map evC).flatten ∧ Below w.heap.size w w' := by
  obtain ⟨al, cl, rfl⟩ := hm.evForm
  have HM := Lib.hid hm
  have HT := Lib.hid ht
  have HI0 := Lib.hid (show TdI m w 0 0 (.slice none 0 0) (w.alloc (.cells Tryz.zeroCells59 59)) from ⟨World.ownsRow_nil _ _ _ _, ⟨_, onI_zero, Blk.new w _ _⟩, (Below.refl _ _).alloc (Nat.le_refl _) _⟩)
  clear hm ht
  go_enter Tryz.func54, Tryz.ntmps54
  go_upto_region 3 with fail
  obtain ⟨B, hB⟩ : ∃ B, w.heap.size = B := ⟨_, rfl⟩
  have HB := Lib.hid hB
  rw [hB]
  generalize w.alloc (.cells Tryz.zeroCells59 59) = W at *
  clear hB
  go_wp2
  go_loopw [3, 5] (fun u x wr => ∃ i : Nat, i ≤ m.length ∧ x = .int .i64 i ∧ RowKit.Hid (TdI m w i i u wr)) (fun _ x _ => m.length - (intOf x).toNat)
  case atStart => exact ⟨0, Nat.zero_le _, rfl, HI0⟩
  clear HI0
  obtain ⟨i, hi, rfl, hI⟩ := hrel
  by_cases him : i < m.length
  · have him2 : (i : Int) < (m.length : Int) := by omega
    obtain ⟨b, o, c', ev, hbl, k0, k1, k2, k3, k4⟩ := (HM.out.later hI.out.b).evAt i him
    cases ev
    clear k1 k2 k3 k4
    obtain ⟨T, hT⟩ : ∃ T, m[i].1 = T := ⟨_, rfl⟩
    rw [hT] at k0
    have HTT := Lib.hid hT
    clear hT
    obtain ⟨c, hon, hbk⟩ := hI.out.o.ex
    rw [HB.out] at hbk
    have HON := Lib.hid hon
    have HBK := Lib.hid hbk
    clear hon hbk
    go_upto_region 5 with fail
    have hmxx : Tryz.prog.follows .mixedOrders = true := by kernel_rfl
    refine wp_normal (wp_region_flowJ (fun xX => { tmps := #[.slice (some ⟨b, o, none⟩) m.length cl, undef, .slice none 0 0, u3, .pointer (some ⟨B, 0, none⟩), .int .i64 (i : Int), (xX 6), (xX 7), .int .i64 (i : Int), .slice (some ⟨b, o, none⟩) m.length cl, .int .i64 (m.length : Int), .bool true, (xX 12), (xX 13), (xX 14), (xX 15), (xX 16), (xX 17), u18, u19, u20, u21, u22, u23, u24, u25, u26, u27, u28, u29, u30, u31, u32, u33, u34, u35, u36, u37, u38, u39, u40, u41, u42, u43, u44, u45, u46, u47, u48, u49, u50, u51, u52, u53, u54, u55, u56, u57, undef], defers := [] }) (fun iI v z => match iI with
      | 0 => v = .slice (some ⟨b, o, none⟩) m.length cl
      | 1 => v = .int .i64 i
      | 2 => v = .pointer (some ⟨b, o + i * 5, none⟩)
      | 3 => v = .pointer (some ⟨b, o + i * 5, none⟩)
      | 4 => v = .int .i64 T
      | 5 => v = .agg c
      | 6 => ∃ X : Nat, v = .pointer (some ⟨X, 0, none⟩) ∧ wr.heap.size ≤ X ∧ Blk z X 59 Tryz.zeroCells59
      | 7 => v = .int .i64 T
      | 8 => True
      | _ => True) (JA 8 8 wr (fun xX z => ∃ X : Nat, xX 6 = .int .i64 T ∧ xX 7 = .pointer (some ⟨X, 0, none⟩) ∧ X ≠ B ∧ Blk z X 59 c ∧ Below wr.heap.size wr z)) (fun n => (#[.slice (some ⟨b, o, none⟩) m.length cl, undef, .slice none 0 0, u3, .pointer (some ⟨B, 0, none⟩), .int .i64 (i : Int), u6, u7, .int .i64 (i : Int), .slice (some ⟨b, o, none⟩) m.length cl, .int .i64 (m.length : Int), .bool true, u12, u13, u14, u15, u16, u17, u18, u19, u20, u21, u22, u23, u24, u25, u26, u27, u28, u29, u30, u31, u32, u33, u34, u35, u36, u37, u38, u39, u40, u41, u42, u43, u44, u45, u46, u47, u48, u49, u50, u51, u52, u53, u54, u55, u56, u57, undef] : Array Value).getD n undef) rfl hmxx (by kernel_rfl) (by kernel_rfl) (ja_start (of_decide_eq_true (by kernel_rfl))) (fun ℓ ℓ' xX w h hj => ja_cong (of_decide_eq_true (by kernel_rfl)) (of_decide_eq_true (by kernel_rfl)) ℓ ℓ' xX w h hj) ?put ?step ?done)
    case put =>
      intro iI oO dD ho hd xX vV
      match iI, ho with
      | 0, ho => obtain rfl := Option.some.inj (show some _ = some oO from ho); obtain rfl := Option.some.inj (show some _ = some dD from hd); rfl
      | 1, ho => obtain rfl := Option.some.inj (show some _ = some oO from ho); obtain rfl := Option.some.inj (show some _ = some dD from hd); rfl
      | 2, ho => obtain rfl := Option.some.inj (show some _ = some oO from ho); obtain rfl := Option.some.inj (show some _ = some dD from hd); rfl
      | 3, ho => obtain rfl := Option.some.inj (show some _ = some oO from ho); obtain rfl := Option.some.inj (show some _ = some dD from hd); rfl
      | 4, ho => obtain rfl := Option.some.inj (show some _ = some oO from ho); obtain rfl := Option.some.inj (show some _ = some dD from hd); rfl
      | 5, ho => obtain rfl := Option.some.inj (show some _ = some oO from ho); obtain rfl := Option.some.inj (show some _ = some dD from hd); rfl
      | 6, ho => obtain rfl := Option.some.inj (show some _ = some oO from ho); obtain rfl := Option.some.inj (show some _ = some dD from hd); rfl
      | 7, ho => obtain rfl := Option.some.inj (show some _ = some oO from ho); obtain rfl := Option.some.inj (show some _ = some dD from hd); rfl
      | 8, ho => obtain rfl := Option.some.inj (show some _ = some oO from ho); cases hd
      | n + 9, ho => exact absurd (Array.getElem?_eq_some_iff.1 ho).1 (by simp)
    case step =>
      intro iI oO ho ℓ xX z hj hli hup hdl hdep K hK
      match iI, ho with
      | 0, ho =>
        obtain rfl := Option.some.inj (show some _ = some oO from ho)
        have hls : ℓ 8 = false := hup 12 8 (by kernel_rfl)
        have hPl := fun xx w' (hb : Below z.heap.size z w') => ja_plain (i := 0) (x' := xx) hj (by decide) (by decide) hls hb
        clear hdep ho hup
        dsimp only at hK ⊢
        refine wpOp_step rfl (fun K2 hK2 => ?_)
        go_simp
        exact hK2 _ _ (hK _ _ (hPl _ _ (Below.refl _ _)) (fun _ _ _ _ h => h) rfl)
      | 1, ho =>
        obtain rfl := Option.some.inj (show some _ = some oO from ho)
        have hls : ℓ 8 = false := hup 12 8 (by kernel_rfl)
        have hPl := fun xx w' (hb : Below z.heap.size z w') => ja_plain (i := 1) (x' := xx) hj (by decide) (by decide) hls hb
        clear hdep ho hup
        dsimp only at hK ⊢
        refine wpOp_step rfl (fun K2 hK2 => ?_)
        go_simp
        exact hK2 _ _ (hK _ _ (hPl _ _ (Below.refl _ _)) (fun _ _ _ _ h => h) rfl)
      | 2, ho =>
        obtain rfl := Option.some.inj (show some _ = some oO from ho)
        have q0 : xX 12 = .slice (some ⟨b, o, none⟩) m.length cl := hdep 0 (by kernel_rfl) _ _ rfl rfl
        have q1 : xX 13 = .int .i64 i := hdep 1 (by kernel_rfl) _ _ rfl rfl
        have hls : ℓ 8 = false := hup 12 8 (by kernel_rfl)
        have hPl := fun xx w' (hb : Below z.heap.size z w') => ja_plain (i := 2) (x' := xx) hj (by decide) (by decide) hls hb
        clear hdep ho hup
        dsimp only at hK ⊢
        simp only [q0, q1] at hK ⊢
        refine wpOp_step rfl (fun K2 hK2 => ?_)
        go_simp
        exact hK2 _ _ (hK _ _ (hPl _ _ (Below.refl _ _)) (fun _ _ _ _ h => h) rfl)
      | 3, ho =>
        obtain rfl := Option.some.inj (show some _ = some oO from ho)
        have q2 : xX 14 = .pointer (some ⟨b, o + i * 5, none⟩) := hdep 2 (by kernel_rfl) _ _ rfl rfl
        have hls : ℓ 8 = false := hup 12 8 (by kernel_rfl)
        have hPl := fun xx w' (hb : Below z.heap.size z w') => ja_plain (i := 3) (x' := xx) hj (by decide) (by decide) hls hb
        clear hdep ho hup
        dsimp only at hK ⊢
        simp only [q2] at hK ⊢
        refine wpOp_step rfl (fun K2 hK2 => ?_)
        go_simp
        exact hK2 _ _ (hK _ _ (hPl _ _ (Below.refl _ _)) (fun _ _ _ _ h => h) rfl)
      | 4, ho =>
        obtain rfl := Option.some.inj (show some _ = some oO from ho)
        have q3 : xX 15 = .pointer (some ⟨b, o + i * 5, none⟩) := hdep 3 (by kernel_rfl) _ _ rfl rfl
        have hls : ℓ 8 = false := hup 12 8 (by kernel_rfl)
        have hPl := fun xx w' (hb : Below z.heap.size z w') => ja_plain (i := 4) (x' := xx) hj (by decide) (by decide) hls hb
        have hz := hj.1 (hup 12 8 (by kernel_rfl))
        have q0 : z.cell? ⟨b, o + i * 5, none⟩ = some (.int .i64 T) := (hz.cell (cell_size k0)).trans k0
        clear hdep ho hup
        dsimp only at hK ⊢
        simp only [q3] at hK ⊢
        refine wpOp_step rfl (fun K2 hK2 => ?_)
        go_simp
        exact hK2 _ _ (hK _ _ (hPl _ _ (Below.refl _ _)) (fun _ _ _ _ h => h) rfl)
      | 5, ho =>
        obtain rfl := Option.some.inj (show some _ = some oO from ho)
        have hls : ℓ 8 = false := hup 12 8 (by kernel_rfl)
        have hPl := fun xx w' (hb : Below z.heap.size z w') => ja_plain (i := 5) (x' := xx) hj (by decide) (by decide) hls hb
        have hz := hj.1 (hup 12 8 (by kernel_rfl))
        clear hdep ho hup
        dsimp only at hK ⊢
        refine wpOp_step rfl (fun K2 hK2 => ?_)
        rw [if_pos (by rfl)]
        refine wp_load_row 59 _ rfl B rfl 59 c (0, 0) _ (HBK.out.below hz) Tryz.underlying59 rfl (onB_info HON.out.size) ?_
        exact hK2 _ _ (hK _ _ (hPl _ _ (Below.refl _ _)) (fun _ _ _ _ h => h) rfl)
      | 6, ho =>
        obtain rfl := Option.some.inj (show some _ = some oO from ho)
        have hls : ℓ 8 = false := hup 12 8 (by kernel_rfl)
        have hPl := fun xx w' (hb : Below z.heap.size z w') => ja_plain (i := 6) (x' := xx) hj (by decide) (by decide) hls hb
        have hz := hj.1 (hup 12 8 (by kernel_rfl))
        clear hdep ho hup
        dsimp only at hK ⊢
        refine wpOp_step rfl (fun K2 hK2 => ?_)
        go_simp
        have hb : Below z.heap.size z (z.alloc (.cells Tryz.zeroCells59 59)) := (Below.refl _ _).alloc (Nat.le_refl _) _
        refine hK2 _ _ (hK _ _ (hPl _ _ hb) ?_ ⟨z.heap.size, rfl, hz.size, Blk.new z _ _⟩)
        intro j v' hlj _ h
        match j, h with
        | 0, h => exact h
        | 1, h => exact h
        | 2, h => exact h
        | 3, h => exact h
        | 4, h => exact h
        | 5, h => exact h
        | 6, h => rw [hli] at hlj; cases hlj
        | 7, h => exact h
        | 8, h => exact h
        | _ + 9, _ => trivial
      | 7, ho =>
        obtain rfl := Option.some.inj (show some _ = some oO from ho)
        have q4 : xX 16 = .int .i64 T := hdep 4 (by kernel_rfl) _ _ rfl rfl
        have hls : ℓ 8 = false := hup 12 8 (by kernel_rfl)
        have hPl := fun xx w' (hb : Below z.heap.size z w') => ja_plain (i := 7) (x' := xx) hj (by decide) (by decide) hls hb
        clear hdep ho hup
        dsimp only at hK ⊢
        simp only [q4] at hK ⊢
        refine wpOp_step rfl (fun K2 hK2 => ?_)
        go_simp
        exact hK2 _ _ (hK _ _ (hPl _ _ (Below.refl _ _)) (fun _ _ _ _ h => h) rfl)
      | 8, ho =>
        obtain rfl := Option.some.inj (show some _ = some oO from ho)
        have q5 : xX 17 = .agg c := hdep 5 (by kernel_rfl) _ _ rfl rfl
        have h6 : ∃ X : Nat, xX 7 = .pointer (some ⟨X, 0, none⟩) ∧ wr.heap.size ≤ X ∧ Blk z X 59 Tryz.zeroCells59 := hdep 6 (by kernel_rfl) _ _ rfl rfl
        obtain ⟨X, q6, hX, hXB⟩ := h6
        have q7 : xX 6 = .int .i64 T := hdep 7 (by kernel_rfl) _ _ rfl rfl
        have hz := hj.1 hli
        clear hdep ho hup
        dsimp only at hK ⊢
        simp only [q5, q6, q7] at hK ⊢
        refine wpOp_step rfl (fun K2 hK2 => ?_)
        rw [if_pos (by rfl)]
        refine wp_store_mid 59 _ _ rfl X 0 c rfl rfl (on_there hXB (by rw [onI_zero.size, HON.out.size])) (onB_info HON.out.size) HON.out.one ?_
        exact hK2 _ _ (hK undef _ (ja_last (.inl rfl) ⟨X, q7, q6, (by have := HBK.out.lt; omega), on_put hXB onI_zero.size HON.out.size, hz.grown (grown_cells _ _ _ _) hz.size (fun k e => by cases e; exact hX)⟩) (fun _ _ _ hp _ => absurd hp (lastB_spec (by kernel_rfl) hdl)) trivial)
      | n + 9, ho => exact absurd (Array.getElem?_eq_some_iff.1 ho).1 (by simp)
    case done =>
      intro ℓ xX z hall hj
      have hf := hj.2 (hall 8 (of_decide_eq_true (by kernel_rfl)))
      obtain ⟨X, q6, q7, hXne, hXC, hXW⟩ := hf
      have HXC := Lib.hid hXC
      have HXW := Lib.hid hXW
      clear hj hXC hXW
      dsimp only
      simp only [q6, q7]
      have HIZ := Lib.hid (hI.out.below HXW.out)
      have HXZ := Lib.hid HXC.out
      go_wp2
      clear HXC HXW HBK hI k0
      go_loopw [3, 5] (fun u x wy => ∃ j : Nat, i ≤ j ∧ j ≤ m.length ∧ u = u3 ∧ x = .int .i64 j ∧ RowKit.Hid (∀ k (h : k < m.length), i ≤ k → k < j → m[k].1 = T) ∧ RowKit.Hid (TdI m w i j u3 wy) ∧ RowKit.Hid (Blk wy X 59 c)) (fun _ x _ => m.length - (intOf x).toNat)
      case atStart => exact ⟨i, Nat.le_refl _, hi, rfl, rfl, Lib.hid (fun k _ h1 h2 => by omega), HIZ, HXZ⟩
      clear HIZ HXZ
      obtain ⟨j, hij, hj, rfl, rfl, hSame, hJ, hXJ⟩ := hrel
      by_cases hjm : j < m.length
      · have hjm2 : (j : Int) < (m.length : Int) := by omega
        obtain ⟨b2, o2, c2', ev2, hbl2, k0, k1, k2, k3, k4⟩ := (HM.out.later hJ.out.b).evAt j hjm
        simp only [Value.slice.injEq, Option.some.injEq, Addr.mk.injEq, true_and, and_true] at ev2
        obtain ⟨⟨rfl, rfl⟩, rfl⟩ := ev2
        obtain ⟨x, hx⟩ : ∃ x, m[j] = x := ⟨_, rfl⟩
        have HX := Lib.hid hx
        rw [hx] at k0 k1 k2 k3 k4
        have HPX := Lib.hid (show Placed x by rw [← hx]; exact HT.out.placed _ (List.getElem_mem hjm))
        have h5 : (x.2.1 == 5) = false := by rw [← hx]; exact beq_eq_false_iff_ne.2 (HT.out.nomark _ (List.getElem_mem hjm))
        have HTK := Lib.hid (show onV (m.take (j + 1)) = onS (onV (m.take j)) x by rw [onV_take hjm, hx])
        clear hx
        by_cases hxt : x.1 = T
        · have hxt2 : (x.1 == T) = true := beq_iff_eq.2 hxt
          have HSN := Lib.hid (show ∀ k (h : k < m.length), i ≤ k → k < j + 1 → m[k].1 = T from fun k h h1 h2 => by
            by_cases e : k = j
            · subst e; rw [HX.out]; exact hxt
            · exact hSame.out k h h1 (by omega))
          clear hxt
          obtain ⟨c9, hon9, hbk9⟩ := hJ.out.o.ex
          have HN0 := Lib.hid (fun (W2 : World) (c2 : Array Value) (hb : Below wr.drew.heap.size wr.drew W2) (h2 : OnI (onV (m.take (j + 1))) c2) => hJ.out.next hbk9 hon9 (below_undrew hb) h2)
          have HX0 := Lib.hid hXJ.out
          rw [HB.out] at hbk9
          have HON9 := Lib.hid hon9
          have HBK9 := Lib.hid hbk9
          clear hon9 hbk9
          go_upto_region 9 with fail
          refine wp_region_still_tail 5 (by kernel_rfl) (by kernel_rfl) ?_
          simp only [List.take_succ_cons, List.take_zero, List.drop_succ_cons, List.drop_zero]
          refine still_load_on rfl _ rfl B rfl (c := c9) HBK9.out HON9.out.size ?_
          simp only [Act.put]
          iterate 4 still_step
          refine wpStill_nil ?_
          change wpList _ _ _ _ _ (World.drew _)
          go_wp2_with fail
          refine (after_any c9 _ HON9.out x HPX.out _).mono ?_
          rintro e W5 ⟨c2, rfl, hon5, hb5⟩
          rename ∀ (a : Act) (w : World), wpList _ _ _ _ a w → _ => hkk
          dsimp only
          refine hkk _ _ ?_
          clear hkk
          have HBK5 := Lib.hid (HBK9.out.below (below_undrew hb5))
          have HON5 := Lib.hid hon5
          have HN := Lib.hid (HN0.out W5 c2 hb5 (by rw [HTK.out]; exact hon5))
          have HXN := Lib.hid (blk_keep (HX0.out.below (below_undrew hb5)) (grown_cells B c2.toList 0 W5) hXne)
          rw [HB.out] at HN
          clear hb5 hon5 k0 k1 k2 k3 k4
          refine wpList_store_mid rfl 59 _ _ rfl B 0 c2 rfl rfl (on_there HBK5.out (by rw [HON9.out.size, HON5.out.size])) (onB_info HON5.out.size) HON5.out.one ?_
          refine wpList_nil ?_
          go_wp2
          go_roundw
          case rel => exact ⟨j + 1, by omega, by omega, rfl, by go_num, HSN, HN, HXN⟩
          case measure => simp [intOf]; omega
        · have hxt2 : (x.1 == T) = false := beq_eq_false_iff_ne.2 hxt
          have hij2 : i < j := by
            rcases Nat.lt_or_ge i j with q | q
            · exact q
            · have : j = i := by omega
              subst this
              exact absurd (by rw [← HX.out]; exact HTT.out) hxt
          clear hxt
          go_upto_region 11 with fail
          obtain ⟨c9, hon9, hbk9⟩ := hJ.out.o.ex
          rw [HB.out] at hbk9
          have HON9 := Lib.hid hon9
          have HBK9 := Lib.hid hbk9
          have HGR := Lib.hid (HT.out.group i j (by omega) hj (fun k h1 h2 h3 _ => by rw [HTT.out]; exact hSame.out k h1 h2 h3) him)
          rw [HTT.out] at HGR
          have HBF := Lib.hid (bin_onV (n := (m.take i).length) rfl (fun x hx => HT.out.placed x (List.mem_of_mem_take hx)))
          have HBG := Lib.hid (bin_onV (n := (m.take j).length) rfl (fun x hx => HT.out.placed x (List.mem_of_mem_take hx)))
          clear hon9 hbk9
          refine wp_region_list ?_
          refine wpList_plain rfl (fun K2 hK2 => ?_)
          go_simp
          refine hK2 _ _ ?_
          clear hK2
          refine wpList_plain rfl (fun K2 hK2 => ?_)
          go_simp
          refine hK2 _ _ ?_
          clear hK2
          refine wpList_load_row rfl 59 _ rfl X rfl 59 c (0, 0) _ hXJ.out Tryz.underlying59 rfl (onB_info HON.out.size) ?_
          refine wpList_load_row rfl 59 _ rfl B rfl 59 c9 (0, 0) _ HBK9.out Tryz.underlying59 rfl (onB_info HON9.out.size) ?_
          simp only [Act.put]
          go_wp2_with fail
          refine (changes_any T c c9 _ _ HON.out HON9.out HBF.out HBG.out _).mono ?_
          rintro e W5 ⟨v, rfl, hrow5, hb5⟩
          have HJ5 := Lib.hid (hJ.out.below hb5)
          have hlc := chgN_len T (onV (m.take i)) (onV (m.take j)) 876
          obtain ⟨V', w3, hrun, hown3, hg3⟩ := append_ev W5 w.heap.size _ _ v (m.take i) (chgN T (onV (m.take i)) (onV (m.take j)) 876) HJ5.out.row hrow5 (by rw [List.length_take]; omega) HJ5.out.b.size
          have HP := Lib.hid (HJ5.out.push hg3 hown3 HGR.out)
          clear hrow5 hb5 hown3 hg3
          rename ∀ (a : Act) (w : World), wpList _ _ _ _ a w → _ => hkk
          dsimp only
          refine hkk _ _ ?_
          clear hkk
          refine Lib.wpList_append_run _ rfl _ _ _ _ rfl _ _ rfl rfl _ _ hrun ?_
          go_wp2
          go_roundw
          case rel => exact ⟨j, hj, by go_num, HP⟩
          case measure => simp [intOf]; omega
      · have hjm2 : ¬ (j : Int) < (m.length : Int) := by omega
        have hij2 : i < j := by omega
        go_upto_region 11 with fail
        obtain ⟨c9, hon9, hbk9⟩ := hJ.out.o.ex
        rw [HB.out] at hbk9
        have HON9 := Lib.hid hon9
        have HBK9 := Lib.hid hbk9
        have HGR := Lib.hid (HT.out.group i j (by omega) hj (fun k h1 h2 h3 _ => by rw [HTT.out]; exact hSame.out k h1 h2 h3) him)
        rw [HTT.out] at HGR
        have HBF := Lib.hid (bin_onV (n := (m.take i).length) rfl (fun x hx => HT.out.placed x (List.mem_of_mem_take hx)))
        have HBG := Lib.hid (bin_onV (n := (m.take j).length) rfl (fun x hx => HT.out.placed x (List.mem_of_mem_take hx)))
        clear hon9 hbk9
        refine wp_region_list ?_
        refine wpList_plain rfl (fun K2 hK2 => ?_)
        go_simp
        refine hK2 _ _ ?_
        clear hK2
        refine wpList_plain rfl (fun K2 hK2 => ?_)
        go_simp
        refine hK2 _ _ ?_
        clear hK2
        refine wpList_load_row rfl 59 _ rfl X rfl 59 c (0, 0) _ hXJ.out Tryz.underlying59 rfl (onB_info HON.out.size) ?_
        refine wpList_load_row rfl 59 _ rfl B rfl 59 c9 (0, 0) _ HBK9.out Tryz.underlying59 rfl (onB_info HON9.out.size) ?_
        simp only [Act.put]
        go_wp2_with fail
        refine (changes_any T c c9 _ _ HON.out HON9.out HBF.out HBG.out _).mono ?_
        rintro e W5 ⟨v, rfl, hrow5, hb5⟩
        have HJ5 := Lib.hid (hJ.out.below hb5)
        have hlc := chgN_len T (onV (m.take i)) (onV (m.take j)) 876
        obtain ⟨V', w3, hrun, hown3, hg3⟩ := append_ev W5 w.heap.size _ _ v (m.take i) (chgN T (onV (m.take i)) (onV (m.take j)) 876) HJ5.out.row hrow5 (by rw [List.length_take]; omega) HJ5.out.b.size
        have HP := Lib.hid (HJ5.out.push hg3 hown3 HGR.out)
        clear hrow5 hb5 hown3 hg3
        rename ∀ (a : Act) (w : World), wpList _ _ _ _ a w → _ => hkk
        dsimp only
        refine hkk _ _ ?_
        clear hkk
        refine Lib.wpList_append_run _ rfl _ _ _ _ rfl _ _ rfl rfl _ _ hrun ?_
        go_wp2
        go_roundw
        case rel => exact ⟨j, hj, by go_num, HP⟩
        case measure => simp [intOf]; omega
  · have him2 : ¬ (i : Int) < (m.length : Int) := by omega
    have hrow := hI.out.row
    rw [List.take_of_length_le (by omega)] at hrow
    have HROW := Lib.hid hrow
    clear hrow
    go_wp2
    go_ret
    exact ⟨_, rfl, HROW.out, hI.out.b⟩
end
section
open Go.RowKit
theorem fits_any (a : Option Addr) (n c : Nat) (hn : n ≤ 20000) (w : World) : Calls Tryz.prog 53 #[.slice a n c] w fun e w' => e = .returned (.tuple #[.slice a n c, .int .i64 0]) ∧ w = w' := by
  have h : decide ((20000 : Int) < (n : Int)) = false := by rw [decide_eq_false_iff_not]; omega
  go_enter Tryz.func53, Tryz.ntmps53
  go_wp2
  go_ret2
  exact ⟨rfl, rfl⟩
set_option maxRecDepth 100000 in
set_option maxHeartbeats 3200000 in
theorem tidy_any (v1 v2 v3 v4 : Value) (S : Sp) (ok : SpOk S) (f : Nat → Value) (m : List Ev) (vm : Value) (w : World) (hsp : SpRd w v1 v2 v3 v4 f S) (hm : ARd w vm 5 (m.map evC)) (hl : m.length ≤ 20000) (hre : recE S m = (0, 0)) (ht : TdOk m) :
    Calls Tryz.prog 19 #[.agg #[v1, v2, v3, v4], vm] w fun e w' => ∃ v, e = .returned (.tuple #[v, .int .i64 0]) ∧ ARd w' v 5 (m.map evC) ∧ Below w.heap.size w w' := by
  have HB0 := Lib.hid (show Below w.heap.size w (w.alloc (.cells #[v1, v2, v3, v4] 27)) from (Below.refl _ _).alloc (Nat.le_refl _) _)
  have HSP := Lib.hid hsp
  have HM := Lib.hid hm
  have HOK := Lib.hid ok
  have HRE := Lib.hid hre
  have HT := Lib.hid ht
  obtain ⟨a, c, rfl⟩ := hm.evForm
  clear hsp hm ok hre ht
  go_enter Tryz.func19, Tryz.ntmps19
  go_wp2_with fail
  refine (rcheck31_any v1 v2 v3 v4 S HOK.out f m _ _ (HSP.out.later HB0.out) (by omega) (HM.out.later HB0.out)).mono ?_
  unfold RecR
  rw [HRE.out]
  rintro e W1 ⟨rfl, hb1⟩
  have HB1 := Lib.hid (below_step HB0.out hb1)
  clear hb1
  go_wp2_with fail
  refine (tidied_any m _ W1 (by omega) (HM.out.later HB1.out) HT.out).mono ?_
  rintro e W2 ⟨v, rfl, hrow, hb2⟩
  have hard : ARd W2 v 5 (m.map evC) := ARd.of_row (fun r hr => by obtain ⟨x, _, rfl⟩ := List.mem_map.1 hr; rfl) (by rw [List.length_map]; exact hrow)
  obtain ⟨ua, uc, rfl⟩ := own_form hrow
  have HAR := Lib.hid hard
  have HB2 := Lib.hid (below_step HB1.out hb2)
  clear hb2 hrow hard
  go_wp2_with fail
  refine (fits_any ua m.length uc hl W2).mono ?_
  rintro e W3 ⟨rfl, rfl⟩
  go_wp2
  go_ret2
  exact ⟨_, rfl, HAR.out, HB2.out⟩
section
variable {P : Program} {w : World}
theorem eqItems_self (d : Nat) (e : TypeId) (c : Nat) (xs : Array Value) : ∀ (is : List Nat), (∀ i ∈ is, ∃ a, (part e xs (i * c)).run P w = .ok a w ∧ (Op.equalIn d e a a).run P w = .ok true w) → (Op.eqItems d e c xs xs is).run P w = .ok true w
  | [], _ => rfl
  | i :: is, h => by
    obtain ⟨a, h1, h2⟩ := h i (by simp)
    unfold Op.eqItems
    simp only [Sem.run_bind, h1, Result.andThen_ok, h2, Bool.not_true, Bool.false_eq_true, if_false]
    exact eqItems_self d e c xs is (fun i hi => h i (by simp [hi]))
end
theorem bool_cellsOf : Tryz.prog.cellsOf 4 = 1 := by kernel_rfl
theorem bool_plain : Tryz.prog.plainKey 4 = true := by kernel_rfl
theorem eq_bools {t : TypeId} {n : Nat} (ht : Tryz.prog.underlying t = some (.array n 4)) (xs : Array Value) (hb : ∀ i, i < n → ∃ b, xs[i]? = some (.bool b)) (d : Nat) (w : World) : (Op.equalIn (d + 1 + 1) t (.agg xs) (.agg xs)).run Tryz.prog w = .ok true w := by
  obtain ⟨i, hi⟩ := info_of_underlying Tryz.underlying4
  rw [run_equalIn_array w (d + 1) _ _ ht hi]
  refine eqItems_self _ _ _ _ _ (fun i hi => ?_)
  obtain ⟨b, hx⟩ := hb i (List.mem_range.1 hi)
  refine ⟨.bool b, run_part_plain w bool_plain (by rw [bool_cellsOf, Nat.mul_one]; exact hx), ?_⟩
  simp [Op.equalIn, run_underlying Tryz.underlying4]
theorem row_cellsOf : Tryz.prog.cellsOf 53 = 128 := by kernel_rfl
theorem eq_rows {t : TypeId} {n : Nat} (ht : Tryz.prog.underlying t = some (.array n 53)) (xs : Array Value) (hb : ∀ i, i < n * 128 → ∃ b, xs[i]? = some (.bool b)) (d : Nat) (w : World) : (Op.equalIn (d + 1 + 1 + 1) t (.agg xs) (.agg xs)).run Tryz.prog w = .ok true w := by
  obtain ⟨i, hi⟩ := info_of_underlying Tryz.underlying53
  rw [run_equalIn_array w (d + 1 + 1) _ _ ht hi]
  refine eqItems_self _ _ _ _ _ (fun k hk => ?_)
  have hk2 := List.mem_range.1 hk
  refine ⟨.agg (xs.extract (k * 128) (k * 128 + 128)), ?_, eq_bools Tryz.underlying53 _ (fun j hj => ?_) d w⟩
  · have hagg : (isAgg 53).run Tryz.prog w = .ok true w := by
      unfold isAgg
      rw [Sem.run_bind, run_underlying Tryz.underlying53 w]
      rfl
    have hsz := run_sizeOf w hi
    rw [row_cellsOf] at hsz
    simp only [part, row_cellsOf, Sem.run_bind, hagg, Result.andThen_ok, if_true, hsz, Sem.run_pure]
  · obtain ⟨b, hx⟩ := hb (k * 128 + j) (by have : k * 128 + 128 ≤ n * 128 := by omega
                                           omega)
    refine ⟨b, ?_⟩
    rw [Array.getElem?_extract, if_pos (by have := (Array.getElem?_eq_some_iff.1 hx).1; omega)]
    exact hx
theorem neq_of {t : TypeId} {xs : Array Value} {w : World} (h : (Op.equalIn 10000 t (.agg xs) (.agg xs)).run Tryz.prog w = .ok true w) : (binOp .neq t (.agg xs) (.agg xs)).run Tryz.prog w = .ok (.bool false) w := by
  have h2 : (Op.equalIn Op.maxDepth t (.agg xs) (.agg xs)).run Tryz.prog w = .ok true w := h
  simp [binOp, Op.equal, h2]
/-- Two boxes of what is on hold the same where the same is on. -/
theorem on_part {f g : Th → Int} {ca cb : Array Value} (hf : OnI f ca) (hg : OnI g cb) {o n : Nat} (h : o + n ≤ 876) (he : ∀ i, o ≤ i → i < o + n → f (thOf i) = g (thOf i)) : cb.extract o (o + n) = ca.extract o (o + n) := by
  apply Array.ext
  · rw [Array.size_extract, Array.size_extract, hf.size, hg.size]
  · intro i h1 h2
    rw [Array.size_extract, hg.size] at h1
    rw [Array.getElem_extract, Array.getElem_extract]
    have a := hf.val _ _ (thOf_ix (i := o + i) (by omega))
    have b := hg.val _ _ (thOf_ix (i := o + i) (by omega))
    rw [he (o + i) (by omega) (by omega), ← b] at a
    rw [Array.getElem?_eq_getElem (by rw [hf.size]; omega), Array.getElem?_eq_getElem (by rw [hg.size]; omega)] at a
    exact (Option.some.inj a).symm
theorem on_bools {f : Th → Int} {ca : Array Value} (hf : OnI f ca) {o n : Nat} (h : o + n ≤ 872) : ∀ i, i < n → ∃ b, (ca.extract o (o + n))[i]? = some (.bool b) := fun i hi => by
  have a := hf.val _ _ (thOf_ix (i := o + i) (by omega))
  refine ⟨decide (f (thOf (o + i)) = 1), ?_⟩
  rw [Array.getElem?_extract, if_pos (by rw [hf.size]; omega), a]
  unfold onCell
  rw [if_neg]
  unfold thOf
  split
  · simp
  · split
    · simp
    · rw [if_pos (by omega)]
      simp
theorem makeP_ok {S : Sp} {l : List Ev} {rt : Int} {th : List Th} (h : (makeP S l rt th).2 = 0) : ∃ n, n ≤ 20000 ∧ (makeP S l rt th).1 = madeR l rt th n ∧ (recE S l).2 = 0 ∧ scE S rt th = 0 ∧ ∀ x ∈ l, x.2.1 ≤ 3 → thing x ∈ th := by
  unfold makeP at h ⊢
  split at h
  · rename_i h1
    rw [if_pos h1]
    split at h
    · rename_i h2
      rw [if_pos h2]
      split at h
      · cases h
      · rename_i h3
        rw [if_neg h3]
        have hin : ∀ x ∈ l, x.2.1 ≤ 3 → thing x ∈ th := fun x hx hk => Classical.byContradiction fun q => h3 ⟨x, hx, hk, q⟩
        split at h
        · rename_i h4
          rw [if_pos h4]
          exact ⟨0, by omega, rfl, h1, h2, hin⟩
        · rename_i h4
          rw [if_neg h4]
          split at h
          · cases h
          · rename_i h5
            rw [if_neg h5]
            exact ⟨((lastT l + rt - 1) / rt + 1).toNat, by omega, rfl, h1, h2, hin⟩
    · rename_i h2
      exact absurd h h2
  · rename_i h1
    exact absurd h h1
theorem makeP_err {S : Sp} {l : List Ev} {rt : Int} {th : List Th} (h : (makeP S l rt th).2 ≠ 0) : (makeP S l rt th).1 = ⟨0, []⟩ := by
  unfold makeP at h ⊢
  split
  · rename_i h1
    rw [if_pos h1] at h
    split
    · rename_i h2
      rw [if_pos h2] at h
      split
      · rfl
      · rename_i h3
        rw [if_neg h3] at h
        split
        · rename_i h4
          rw [if_pos h4] at h
          exact absurd rfl h
        · rename_i h4
          rw [if_neg h4] at h
          split
          · rfl
          · rename_i h5
            rw [if_neg h5] at h
            exact absurd rfl h
    · rfl
  · rfl
end
section
open Go.ChangeShapes Go.WideShapes Go.ChangeAt Go.ChangeMaps Go.RowKit
section
variable {H : Type} {enc : TypeId × Value → H} {W : World} {base : Nat} {spare : Nat → Bool} {held : Bool}
theorem cP_int : Tryz.prog.cellsOf 3 = 1 := by kernel_rfl
theorem cP_i64 : Tryz.prog.cellsOf 2 = 1 := by kernel_rfl
theorem cP_th : Tryz.prog.cellsOf 82 = 3 := by kernel_rfl
theorem cP_ths : Tryz.prog.cellsOf 29 = 1 := by kernel_rfl
theorem cP_sc : Tryz.prog.cellsOf 31 = 2 := by kernel_rfl
theorem cP_to : Tryz.prog.cellsOf 43 = 2 := by kernel_rfl
theorem cP_ho : Tryz.prog.cellsOf 45 = 4 := by kernel_rfl
theorem th_open (n : Nat) (cs : List Value) (y : DataW H × List MemPlace) (h : DataW.trod enc Tryz.prog W base spare held n 82 cs = some y) : ∃ x : Th, cs = thC x ∧ True := by
  have hl := (len_struct Tryz.underlying82 h).trans cP_th
  obtain ⟨a, ha, _⟩ := fld_int Tryz.underlying82 h 0 _ rfl Tryz.underlying3
  obtain ⟨b, hb, _⟩ := fld_int Tryz.underlying82 h 1 _ rfl Tryz.underlying3
  obtain ⟨c, hc, _⟩ := fld_int Tryz.underlying82 h 2 _ rfl Tryz.underlying3
  exact ⟨(a, b, c), list3 hl ha hb hc, trivial⟩
theorem array4 {α : Type} {cs : Array α} (h : cs.size = 4) : ∃ c0 c1 c2 c3, cs = #[c0, c1, c2, c3] := by
  obtain ⟨l⟩ := cs
  match l, h with
  | [c0, c1, c2, c3], _ => exact ⟨c0, c1, c2, c3, rfl⟩
/-- What is known of the argument. -/
structure HoB (W : World) (th : List Th) (vt : Value) : Prop where
  th : ARd W vt 3 (th.map thC)
  ct : ∀ p n q, vt = .slice p n q → n ≤ q
set_option maxRecDepth 100000 in
theorem how_open {b0 : Nat} {r : Reach} {v : Value} {d : DataW H} {p : List MemPlace} (hv : Value.okWide Tryz.prog W r b0 45 v) (h : DataW.Trod enc Tryz.prog W base spare held 45 v d p) :
    ∃ (rt least gap : Int) (th : List Th) (vt : Value), v = .agg #[.int .i64 rt, vt, .int .i64 least, .int .i64 gap] ∧ HoB W th vt := by
  obtain ⟨cs, rfl, hsz⟩ := okWide_struct Tryz.underlying45 hv
  obtain ⟨c0, c1, c2, c3, rfl⟩ := array4 (hsz.trans cP_ho)
  obtain ⟨fuel, hf⟩ := h
  obtain ⟨y0, y1, n, _, _, h0, h1⟩ := trod_struct2 Tryz.underlying45 hf
  simp [Value.cells, cP_sc] at h0
  simp [Value.cells, cP_to] at h1
  obtain ⟨z0, z1, m, _, _, k0, k1⟩ := trod_struct2 Tryz.underlying31 h0
  simp [cP_i64] at k0
  simp [cP_ths] at k1
  obtain ⟨u0, u1, m2, _, _, l0, l1⟩ := trod_struct2 Tryz.underlying43 h1
  simp [cP_int] at l0 l1
  obtain ⟨rt, hrt, _, _⟩ := DataW.trod_int Tryz.underlying2 k0
  obtain ⟨least, hle, _, _⟩ := DataW.trod_int Tryz.underlying3 l0
  obtain ⟨gap, hga, _, _⟩ := DataW.trod_int Tryz.underlying3 l1
  obtain ⟨v', th, hc, hr, _, _, hct⟩ := slice_rowsB thC (fun _ => True) Tryz.underlying29 cP_th (by omega) th_open k1
  obtain rfl : c1 = v' := by simpa using hc
  obtain rfl : c0 = .int .i64 rt := by simpa using hrt
  obtain rfl : c2 = .int .i64 least := by simpa using hle
  obtain rfl : c3 = .int .i64 gap := by simpa using hga
  exact ⟨rt, least, gap, th, c1, rfl, hr, hct⟩
end
section
variable {H : Type} {enc : TypeId × Value → H} {W : World} {base : Nat} {spare : Nat → Bool} {held : Bool}
theorem cP_ev : Tryz.prog.cellsOf 68 = 5 := by kernel_rfl
theorem ev_open (n : Nat) (cs : List Value) (y : DataW H × List MemPlace) (h : DataW.trod enc Tryz.prog W base spare held n 68 cs = some y) : ∃ x : Ev, cs = evC x ∧ True := by
  have hl := (len_struct Tryz.underlying68 h).trans cP_ev
  obtain ⟨a, ha, _⟩ := fld_int Tryz.underlying68 h 0 _ rfl Tryz.underlying2
  obtain ⟨b, hb, _⟩ := fld_int Tryz.underlying68 h 1 _ rfl Tryz.underlying3
  obtain ⟨c, hc, _⟩ := fld_int Tryz.underlying68 h 2 _ rfl Tryz.underlying3
  obtain ⟨d, hd, _⟩ := fld_int Tryz.underlying68 h 3 _ rfl Tryz.underlying3
  obtain ⟨e, he, _⟩ := fld_int Tryz.underlying68 h 4 _ rfl Tryz.underlying3
  exact ⟨(a, b, c, d, e), list5 hl ha hb hc hd he, trivial⟩
/-- What is known of a recording. -/
structure ReB (W : World) (l : List Ev) (v : Value) : Prop where
  l : ARd W v 5 (l.map evC)
  cap : ∀ p n q, v = .slice p n q → n ≤ q
set_option maxRecDepth 100000 in
theorem rec_open {b0 : Nat} {r : Reach} {v : Value} {d : DataW H} {p : List MemPlace} (hv : Value.okWide Tryz.prog W r b0 28 v) (h : DataW.Trod enc Tryz.prog W base spare held 28 v d p) :
    ∃ l : List Ev, ReB W l v := by
  obtain ⟨a0, l0, c0, rfl⟩ := okWide_slice Tryz.underlying28 hv
  obtain ⟨fuel, hf⟩ := h
  obtain ⟨v', l, hc, hr, _, _, hct⟩ := slice_rowsB evC (fun _ => True) Tryz.underlying28 cP_ev (by omega) ev_open hf
  simp only [Value.cells, List.cons.injEq, and_true] at hc
  exact ⟨l, by rw [hc]; exact hr, by rw [hc]; exact hct⟩
set_option maxRecDepth 100000 in
theorem scale_open {b0 : Nat} {r : Reach} {v : Value} {d : DataW H} {p : List MemPlace} (hv : Value.okWide Tryz.prog W r b0 31 v) (h : DataW.Trod enc Tryz.prog W base spare held 31 v d p) :
    ∃ (rt : Int) (th : List Th) (vt : Value), v = .agg #[.int .i64 rt, vt] ∧ HoB W th vt := by
  obtain ⟨v0, v1, y0, y1, n, rfl, _, _, k0, k1⟩ := Go.Joins.open_agg2 Tryz.underlying31 (by kernel_rfl) (by kernel_rfl) hv h
  obtain ⟨rt, hrt, _, _⟩ := DataW.trod_int Tryz.underlying2 k0
  obtain ⟨v', th, hc, hr, _, _, hct⟩ := slice_rowsB thC (fun _ => True) Tryz.underlying29 cP_th (by omega) th_open k1
  obtain rfl : v1 = v' := by simpa using hc
  obtain rfl : v0 = .int .i64 rt := by simpa using hrt
  exact ⟨rt, th, v1, rfl, hr, hct⟩
end
end
section
open Go.RowKit
theorem onRow_len2 (f : Th → Int) (th : List Th) : (onRow f th).length ≤ th.length + 1 := told_len _ _
theorem madeR_ok {l : List Ev} {rt : Int} {th : List Th} {n : Nat} (hn : n ≤ 20000) (h2 : th.length ≤ 127) : RoOk (madeR l rt th n) := by
  refine ⟨by rw [madeR_len]; omega, fun _ r hr => ?_⟩
  obtain ⟨i, _, rfl⟩ := List.mem_map.1 hr
  have := onRow_len2 (onV (l.take (upN l ((i : Int) * rt)))) th
  omega
theorem wpList_want {P : Program} {ops : Array Oper} {rest : List Oper} {o : Oper} {a : Act} {w : World} {Q : Exit → Act → World → Prop} (hw : Region.wanted o (yielded ops a.tmps) = true) (h : ∀ K : Act → World → Prop, (∀ a w, wpList P ops Q rest a w → K a w) → o.wp P a w K Q) : wpList P ops Q (o :: rest) a w := wpList_step fun K hK => by rw [if_pos hw]; exact h K hK
theorem kz54 : (Tryz.prog.info? 54).map (·.size) = some 768 := by kernel_rfl
theorem kz55 : (Tryz.prog.info? 55).map (·.size) = some 80 := by kernel_rfl
theorem kz56 : (Tryz.prog.info? 56).map (·.size) = some 24 := by kernel_rfl
theorem ext_len {c : Array Value} (hs : c.size = 876) {o n : Nat} (h : o + n ≤ 876) : (c.extract o (o + n)).toList.length = n := by
  rw [Array.length_toList, Array.size_extract, hs]
  omega
set_option maxRecDepth 100000 in
set_option maxHeartbeats 12800000 in
theorem rollsPlay_walk (v1 v2 v3 v4 : Value) (S : Sp) (l : List Ev) (vl : Value) (rt : Int) (th : List Th) (vt : Value) (w : World) (t : Tabs w) (g : Nat → Value) (hsp : SpRd w v1 v2 v3 v4 g S) (hre : ReB w l vl) (hp : HoB w th vt) :
    Calls Tryz.prog 5 #[.agg #[v1, v2, v3, v4], vl, .agg #[.int .i64 rt, vt]] w fun e w' => e = .returned (.bool true) ∧ Below w.heap.size w w' := by
  obtain ⟨⟨e1, n1, rfl⟩, ⟨e2, n2, rfl⟩, ⟨e3, n3, rfl⟩, ⟨e4, n4, rfl⟩⟩ := hsp.forms
  obtain ⟨ta, tc, rfl⟩ := hp.th.thForm
  obtain ⟨la, lc, rfl⟩ := hre.l.evForm
  obtain ⟨d1, hd1⟩ : ∃ d1, S.ds.length = d1 := ⟨_, rfl⟩
  obtain ⟨d2, hd2⟩ : ∃ d2, S.rs.length = d2 := ⟨_, rfl⟩
  obtain ⟨d3, hd3⟩ : ∃ d3, S.ss.length = d3 := ⟨_, rfl⟩
  obtain ⟨d4, hd4⟩ : ∃ d4, S.cs.length = d4 := ⟨_, rfl⟩
  rw [hd1, hd2, hd3, hd4] at hsp ⊢
  have hb0 : Below w.heap.size w ((w.alloc (.cells #[.slice e1 d1 n1, .slice e2 d2 n2, .slice e3 d3 n3, .slice e4 d4 n4] 27)).alloc (.cells #[.int .i64 rt, .slice ta th.length tc] 31)) := below_two w _ _
  have k1 := (Blk.new w 27 #[.slice e1 d1 n1, .slice e2 d2 n2, .slice e3 d3 n3, .slice e4 d4 n4]).alloc (.cells #[.int .i64 rt, .slice ta th.length tc] 31)
  have k2 := Blk.new (w.alloc (.cells #[.slice e1 d1 n1, .slice e2 d2 n2, .slice e3 d3 n3, .slice e4 d4 n4] 27)) 31 #[.int .i64 rt, .slice ta th.length tc]
  rw [World.size_alloc] at k2
  have HSP := Lib.hid hsp
  have HPA := Lib.hid hp
  have HRE := Lib.hid hre
  have HT := Lib.hid t
  have HB0 := Lib.hid hb0
  have HX0 := Lib.hid k1
  have HY0 := Lib.hid k2
  clear t hb0 hsp hp hre k1 k2 hd1 hd2 hd3 hd4
  go_enter Tryz.func5, Tryz.ntmps5
  go_upto_region 1 with fail
  generalize (w.alloc (.cells #[.slice e1 d1 n1, .slice e2 d2 n2, .slice e3 d3 n3, .slice e4 d4 n4] 27)).alloc (.cells #[.int .i64 rt, .slice ta th.length tc] 31) = W0 at *
  have x0 := HX0.out.cell 0
  have x1 := HX0.out.cell 1
  have x2 := HX0.out.cell 2
  have x3 := HX0.out.cell 3
  have y0 := HY0.out.cell 0
  have y1 := HY0.out.cell 1
  go_wp2_with fail
  refine (deep_l _ _ _ _ S g l _ rt th _ W0 (HSP.out.later HB0.out) (HRE.out.l.later HB0.out) (HPA.out.th.later HB0.out)).mono ?_
  rintro e W1 ⟨q, rfl, hdk, hb1⟩
  have HB1 := Lib.hid (below_step HB0.out hb1)
  have HX1 := Lib.hid (HX0.out.below hb1)
  have HY1 := Lib.hid (HY0.out.below hb1)
  clear hb1 x0 x1 x2 x3 y0 y1 HB0 HX0 HY0
  cases q with
  | true =>
    clear hdk
    go_wp2_with fail
    refine (shown32_any _ (HT.out.below HB1.out)).mono ?_
    rintro e w9 ⟨rfl, hb9⟩
    have HB9 := Lib.hid (below_step HB1.out hb9)
    clear hb9
    go_wp2
    go_ret
    exact ⟨rfl, HB9.out⟩
  | false =>
    obtain ⟨sok, h60, h200⟩ := hdk rfl
    have SOK := Lib.hid sok
    clear sok hdk
    have x0 := HX1.out.cell 0
    have x1 := HX1.out.cell 1
    have x2 := HX1.out.cell 2
    have x3 := HX1.out.cell 3
    have y0 := HY1.out.cell 0
    have y1 := HY1.out.cell 1
    go_wp2_with fail
    refine (make_any _ _ _ _ S SOK.out g l _ rt th _ W1 (HT.out.below HB1.out) (HSP.out.later HB1.out) (by omega) (HRE.out.l.later HB1.out) HRE.out.cap (by omega) (HPA.out.th.later HB1.out) HPA.out.ct).mono ?_
    intro e W2 hmk
    obtain ⟨v6, g6, rfl, hrd, hb2⟩ := hmk
    by_cases her : (makeP S l rt th).2 = 0
    · obtain ⟨n, hn, hR, hre0, hsc0, hin⟩ := makeP_ok her
      rw [hR] at hrd
      rw [hR, her]
      have SO := Lib.hid (scE_ok hsc0)
      have RO := Lib.hid (recE_ok hre0)
      have HSC0 := Lib.hid hsc0
      have HIN := Lib.hid hin
      have hth1 := SO.out.th1
      have hth2 := SO.out.th2
      have hrt1 := SO.out.rt1
      have hrt2 := SO.out.rt2
      have HPL := Lib.hid (show ∀ x ∈ l, Placed x from fun x hx => by
        obtain ⟨j, hj, rfl⟩ := List.getElem_of_mem hx
        exact ev_placed RO.out.sp (RO.out.at' j hj).2)
      clear her hR hre0 hsc0 hin
      obtain ⟨R, hR⟩ : ∃ R, madeR l rt th n = R := ⟨_, rfl⟩
      have HRE0 := Lib.hid (show rollErr R true = 0 by rw [← hR]; exact madeR_err hth1 hth2 hn)
      have HRN := Lib.hid (show R.rows.length = n by rw [← hR]; exact madeR_len l rt th n)
      have HRT := Lib.hid (show R.tracks = th.length + 1 by rw [← hR]; rfl)
      have HOK := Lib.hid (show RoOk R by rw [← hR]; exact madeR_ok hn hth2)
      have HRD : RowKit.Hid (∀ (m : List Ev) (c : Int), ReadP S R rt th 1 0 m c → c = 0 ∧ m.length ≤ 20000 ∧ PlOk rt th n (fun k => trk (madeR l rt th n) (k + 1)) m) := Lib.hid (fun m c h => made_read (S := S) (l := l) (rt := rt) (th := th) (n := n) HSC0.out h60 hn (by rw [hR]; exact h))
      rw [hR] at hrd ⊢
      have HMR := Lib.hid hR
      obtain ⟨ra, rcp, rfl⟩ := hrd.form
      rw [HRN.out] at hrd ⊢
      have HR2 := Lib.hid (hrd.later ((Below.refl _ W2).alloc (Nat.le_refl _) (.cells #[.int .i64 R.tracks, .slice ra n rcp] 36)))
      have HB2 := Lib.hid (below_step (below_step HB1.out hb2) ((Below.refl _ W2).alloc (Nat.le_refl _) (.cells #[.int .i64 R.tracks, .slice ra n rcp] 36)))
      have HX2 := Lib.hid ((HX1.out.below hb2).alloc (.cells #[.int .i64 R.tracks, .slice ra n rcp] 36))
      have HY2 := Lib.hid ((HY1.out.below hb2).alloc (.cells #[.int .i64 R.tracks, .slice ra n rcp] 36))
      have HA2 := Lib.hid (Blk.new W2 36 #[.int .i64 R.tracks, .slice ra n rcp])
      clear hrd hb2 x0 x1 x2 x3 y0 y1 HX1 HY1 HB1 hR
      go_upto_region 4 with fail
      obtain ⟨A, hA⟩ : ∃ A, W2.heap.size = A := ⟨_, rfl⟩
      rw [hA] at HA2 ⊢
      generalize W2.alloc (.cells #[.int .i64 R.tracks, .slice ra n rcp] 36) = W3 at *
      clear hA
      have a0 := HA2.out.cell 0
      have a1 := HA2.out.cell 1
      go_wp2_with fail
      refine (check_roll R HOK.out _ _ W3 HR2.out).mono ?_
      rw [HRE0.out]
      rintro e W4 ⟨rfl, hb4⟩
      have HB4 := Lib.hid (below_step HB2.out hb4)
      have HX4 := Lib.hid (HX2.out.below hb4)
      have HY4 := Lib.hid (HY2.out.below hb4)
      have HA4 := Lib.hid (HA2.out.below hb4)
      have HR4 := Lib.hid (HR2.out.later hb4)
      clear hb4 a0 a1 HB2 HX2 HY2 HA2 HR2
      have x0 := HX4.out.cell 0
      have x1 := HX4.out.cell 1
      have x2 := HX4.out.cell 2
      have x3 := HX4.out.cell 3
      have y0 := HY4.out.cell 0
      have y1 := HY4.out.cell 1
      have a0 := HA4.out.cell 0
      have a1 := HA4.out.cell 1
      go_wp2_with fail
      refine (read_any _ _ _ _ S SOK.out g R HOK.out _ _ rt th _ 1 0 W4 (HT.out.below HB4.out) (HSP.out.later HB4.out) HR4.out (by omega) (HPA.out.th.later HB4.out) HPA.out.ct).mono ?_
      rintro e W5 ⟨vm, m, ce, rfl, hrp, hom, hb5⟩
      obtain ⟨rfl, hml, hpk⟩ := HRD.out _ _ hrp
      have HPK := Lib.hid hpk
      have HMP := Lib.hid (show ∀ x ∈ m, Placed x from fun x hx => by
        obtain ⟨q1, q2, q3⟩ := hpk.kinds hx
        exact ev_placed RO.out.sp (thE_evE ⟨q1, q2⟩ (hpk.val hx) (SO.out.good _ q3)))
      have HTD := Lib.hid (hpk.tidy HMP.out)
      have HRM := Lib.hid (hpk.recE0 RO.out.sp SO.out.good hml (by
        have h1 : (n : Int) * rt ≤ (n : Int) * 1000 := Int.mul_le_mul_of_nonneg_left hrt2 (by omega)
        omega))
      have HOM := Lib.hid (show ARd W5 vm 5 (m.map evC) from hom)
      obtain ⟨ma, mc, rfl⟩ := HOM.out.evForm
      have HB5 := Lib.hid (below_step HB4.out hb5)
      have HX5 := Lib.hid (HX4.out.below hb5)
      have HY5 := Lib.hid (HY4.out.below hb5)
      have HA5 := Lib.hid (HA4.out.below hb5)
      clear hrp hom hpk hb5 x0 x1 x2 x3 y0 y1 a0 a1 HB4 HX4 HY4 HA4 HR4 HRD
      have x0 := HX5.out.cell 0
      have x1 := HX5.out.cell 1
      have x2 := HX5.out.cell 2
      have x3 := HX5.out.cell 3
      go_wp2_with fail
      refine (tidy_any _ _ _ _ S SOK.out g m _ W5 (HSP.out.later HB5.out) HOM.out hml HRM.out HTD.out).mono ?_
      rintro e W6 ⟨vt2, rfl, hot, hb6⟩
      have HOT := Lib.hid hot
      obtain ⟨ta2, tc2, rfl⟩ := HOT.out.evForm
      have HOM6 := Lib.hid (HOM.out.later hb6)
      have HB6 := Lib.hid (below_step HB5.out hb6)
      have HY6 := Lib.hid (HY5.out.below hb6)
      have HA6 := Lib.hid (HA5.out.below hb6)
      clear hot hb6 x0 x1 x2 x3 HB5 HX5 HY5 HA5 HOM
      go_wp2_with fail
      refine (same_events m _ _ W6 HOM6.out HOT.out (by omega)).mono ?_
      rintro e W7 ⟨rfl, nq, hw7⟩
      have hb7 : Below W6.heap.size W6 W7 := by rw [hw7]; exact below_drewN (Below.refl _ _) nq
      have HOM7 := Lib.hid (HOM6.out.later hb7)
      have HB7 := Lib.hid (below_step HB6.out hb7)
      have HY7 := Lib.hid (HY6.out.below hb7)
      have HA7 := Lib.hid (HA6.out.below hb7)
      clear hb7 hw7 HB6 HY6 HA6 HOM6 HOT
      go_wp2
      go_loopw [13] (fun x wr => ∃ i : Nat, i ≤ n ∧ x = .int .i64 i ∧ RowKit.Hid (Below W7.heap.size W7 wr)) (fun x _ => n - (intOf x).toNat)
      case atStart => exact ⟨0, Nat.zero_le _, rfl, Lib.hid (Below.refl _ _)⟩
      obtain ⟨i, hi, rfl, hW⟩ := hrel
      rename World => Wi
      have a1 : Wi.cell? ⟨A, 1, none⟩ = some (.slice ra n rcp) := (HA7.out.below hW.out).cell 1
      have HBi := Lib.hid (below_step HB7.out hW.out)
      by_cases hin : i < n
      · have hin2 : (i : Int) < (n : Int) := by omega
        have y0 : Wi.cell? ⟨w.heap.size + 1, 0, none⟩ = some (.int .i64 rt) := (HY7.out.below hW.out).cell 0
        have hir0 : 0 ≤ (i : Int) * rt := Int.mul_nonneg (by omega) (by omega)
        have hir1 : (i : Int) * rt ≤ 20000000 := by
          have h1 : (i : Int) * rt ≤ (i : Int) * 1000 := Int.mul_le_mul_of_nonneg_left hrt2 (by omega)
          omega
        have HAG := Lib.hid (fun (t : Th) (ht : t.1 ≤ 3) => made_agree HPK.out HPL.out HIN.out hin ht)
        obtain ⟨p, hp⟩ : ∃ p, (i : Int) * rt = p := ⟨_, rfl⟩
        have e1 : IntKind.i64.wrap ((i : Int) * rt) = p := by rw [hp]; exact IntWalk.i64_in _ (by omega)
        rw [hp] at hir0 hir1 HAG
        clear hp
        go_upto_region 16 with fail
        go_wp2_with fail
        refine (up_any l _ p Wi (by omega) (HRE.out.l.later HBi.out) HPL.out).mono ?_
        rintro e Wa ⟨ca, rfl, hona, hba⟩
        rename ∀ (a : Act) (w : World), wpList _ _ _ _ a w → _ => hkk
        dsimp only
        refine hkk _ _ ?_
        clear hkk
        have HONA := Lib.hid hona
        have HBA := Lib.hid (below_step hW.out hba)
        clear hona hba y0 a1 e1
        go_wp2_with fail
        refine (up_any m _ p Wa (by omega) (HOM7.out.later HBA.out) HMP.out).mono ?_
        rintro e Wb ⟨cb, rfl, honb, hbb⟩
        rename ∀ (a : Act) (w : World), wpList _ _ _ _ a w → _ => hkk
        dsimp only
        refine hkk _ _ ?_
        clear hkk
        have HONB := Lib.hid honb
        have HBB := Lib.hid (below_step HBA.out hbb)
        clear honb hbb
        refine wpList_plain rfl (fun K2 hK2 => ?_)
        go_simp
        refine hK2 _ _ ?_
        clear hK2
        refine wpList_plain rfl (fun K2 hK2 => ?_)
        go_simp
        refine hK2 _ _ ?_
        clear hK2
        have HN1 := Lib.hid ((Blk.new Wb 59 Tryz.zeroCells59).alloc (.cells Tryz.zeroCells59 59))
        have HN2 := Lib.hid (Blk.new (Wb.alloc (.cells Tryz.zeroCells59 59)) 59 Tryz.zeroCells59)
        rw [World.size_alloc] at HN2
        have HBC := Lib.hid (show Below W7.heap.size W7 ((Wb.alloc (.cells Tryz.zeroCells59 59)).alloc (.cells Tryz.zeroCells59 59)) from below_step HBB.out (below_two Wb _ _))
        have hlow := HBB.out.size
        obtain ⟨A1, hA1⟩ : ∃ A1, Wb.heap.size = A1 := ⟨_, rfl⟩
        rw [hA1] at HN1 HN2 hlow ⊢
        generalize (Wb.alloc (.cells Tryz.zeroCells59 59)).alloc (.cells Tryz.zeroCells59 59) = Wc at *
        refine wpList_store_mid rfl 59 _ _ rfl A1 0 ca rfl rfl (on_there HN1.out (by rw [onI_zero.size, HONA.out.size])) (onB_info HONA.out.size) HONA.out.one ?_
        have HM1 := Lib.hid (on_put (c2 := ca) HN1.out onI_zero.size HONA.out.size)
        have HM2 := Lib.hid (blk_keep HN2.out (grown_cells A1 ca.toList 0 Wc) (by omega))
        have HBD := Lib.hid (show Below W7.heap.size W7 (Wc.setCells A1 0 ca.toList) from HBC.out.grown (grown_cells _ _ _ _) HBC.out.size (fun k e => by cases e; exact hlow))
        generalize Wc.setCells A1 0 ca.toList = Wd at *
        refine wpList_store_mid rfl 59 _ _ rfl (A1 + 1) 0 cb rfl rfl (on_there HM2.out (by rw [onI_zero.size, HONB.out.size])) (onB_info HONB.out.size) HONB.out.one ?_
        have HP1 := Lib.hid (blk_keep HM1.out (grown_cells (A1 + 1) cb.toList 0 Wd) (by omega))
        have HP2 := Lib.hid (on_put (c2 := cb) HM2.out onI_zero.size HONB.out.size)
        have HBE := Lib.hid (show Below W7.heap.size W7 (Wd.setCells (A1 + 1) 0 cb.toList) from HBD.out.grown (grown_cells _ _ _ _) HBD.out.size (fun k e => by cases e; omega))
        generalize Wd.setCells (A1 + 1) 0 cb.toList = We at *
        clear HN1 HN2 HBC HM1 HM2 HBD HBA HBB hA1
        have HE1 := Lib.hid (on_part (o := 0) (n := 768) HONA.out HONB.out (by omega) (fun i _ h2 => (HAG.out (thOf i) (by unfold thOf; rw [if_pos (by omega)]; simp)).symm))
        have HE2 := Lib.hid (on_part (o := 768) (n := 80) HONA.out HONB.out (by omega) (fun i h1 h2 => (HAG.out (thOf i) (by unfold thOf; rw [if_neg (by omega), if_pos (by omega)]; simp)).symm))
        have HE3 := Lib.hid (on_part (o := 848) (n := 24) HONA.out HONB.out (by omega) (fun i h1 h2 => (HAG.out (thOf i) (by unfold thOf; rw [if_neg (by omega), if_neg (by omega), if_pos (by omega)]; simp)).symm))
        obtain ⟨X1, hX1⟩ : ∃ X, ca.extract 0 (0 + 768) = X := ⟨_, rfl⟩
        have hq1 := fun w' : World => eq_rows (n := 6) Tryz.underlying54 X1 (by rw [← hX1]; exact on_bools HONA.out (by omega)) 9997 w'
        have HE1 := Lib.hid (HE1.out.trans hX1)
        have HF1 := Lib.hid hX1
        clear hX1
        obtain ⟨X2, hX2⟩ : ∃ X, ca.extract 768 (768 + 80) = X := ⟨_, rfl⟩
        have hq2 := fun w' : World => eq_bools (n := 80) Tryz.underlying55 X2 (by rw [← hX2]; exact on_bools HONA.out (by omega)) 9998 w'
        have HE2 := Lib.hid (HE2.out.trans hX2)
        have HF2 := Lib.hid hX2
        clear hX2
        obtain ⟨X3, hX3⟩ : ∃ X, ca.extract 848 (848 + 24) = X := ⟨_, rfl⟩
        have hq3 := fun w' : World => eq_bools (n := 24) Tryz.underlying56 X3 (by rw [← hX3]; exact on_bools HONA.out (by omega)) 9998 w'
        have HE3 := Lib.hid (HE3.out.trans hX3)
        have HF3 := Lib.hid hX3
        clear hX3
        refine wpList_nil ?_
        go_upto_region 17 with fail
        refine wp_region_list ?_
        refine wpList_step (fun K2 hK2 => ?_)
        go_simp
        refine hK2 _ _ ?_
        clear hK2
        refine wpList_want (by rfl) (fun K2 hK2 => wp_load_mid 54 _ rfl A1 0 rfl ((ca).extract 0 (0 + 768)).toList _ (World.rangeAt_of_block HP1.out 0 768) Tryz.underlying54 rfl (by rw [ext_len HONA.out.size (by omega)]; exact kz54) (hK2 _ _ ?_))
        clear hK2
        rw [Array.toArray_toList]
        rw [HF1.out]
        simp only [Act.put]
        refine wpList_step (fun K2 hK2 => ?_)
        go_simp
        refine hK2 _ _ ?_
        clear hK2
        refine wpList_want (by rfl) (fun K2 hK2 => wp_load_mid 54 _ rfl (A1 + 1) 0 rfl ((cb).extract 0 (0 + 768)).toList _ (World.rangeAt_of_block HP2.out 0 768) Tryz.underlying54 rfl (by rw [ext_len HONB.out.size (by omega)]; exact kz54) (hK2 _ _ ?_))
        clear hK2
        rw [Array.toArray_toList]
        rw [HE1.out]
        simp only [Act.put]
        refine wpList_step (fun K2 hK2 => ?_)
        go_simp
        refine hK2 _ _ ?_
        clear hK2
        refine wpList_step (fun K2 hK2 => ?_)
        go_simp
        refine hK2 _ _ ?_
        clear hK2
        refine wpList_step (fun K2 hK2 => ?_)
        go_simp
        refine hK2 _ _ ?_
        clear hK2
        refine wpList_want (by rfl) (fun K2 hK2 => wp_load_mid 55 _ rfl A1 768 rfl ((ca).extract 768 (768 + 80)).toList _ (World.rangeAt_of_block HP1.out 768 80) Tryz.underlying55 rfl (by rw [ext_len HONA.out.size (by omega)]; exact kz55) (hK2 _ _ ?_))
        clear hK2
        rw [Array.toArray_toList]
        rw [HF2.out]
        simp only [Act.put]
        refine wpList_step (fun K2 hK2 => ?_)
        go_simp
        refine hK2 _ _ ?_
        clear hK2
        refine wpList_want (by rfl) (fun K2 hK2 => wp_load_mid 55 _ rfl (A1 + 1) 768 rfl ((cb).extract 768 (768 + 80)).toList _ (World.rangeAt_of_block HP2.out 768 80) Tryz.underlying55 rfl (by rw [ext_len HONB.out.size (by omega)]; exact kz55) (hK2 _ _ ?_))
        clear hK2
        rw [Array.toArray_toList]
        rw [HE2.out]
        simp only [Act.put]
        refine wpList_step (fun K2 hK2 => ?_)
        go_simp
        refine hK2 _ _ ?_
        clear hK2
        refine wpList_step (fun K2 hK2 => ?_)
        go_simp
        refine hK2 _ _ ?_
        clear hK2
        refine wpList_step (fun K2 hK2 => ?_)
        go_simp
        refine hK2 _ _ ?_
        clear hK2
        refine wpList_step (fun K2 hK2 => ?_)
        go_simp
        refine hK2 _ _ ?_
        clear hK2
        refine wpList_want (by rfl) (fun K2 hK2 => wp_load_mid 56 _ rfl A1 848 rfl ((ca).extract 848 (848 + 24)).toList _ (World.rangeAt_of_block HP1.out 848 24) Tryz.underlying56 rfl (by rw [ext_len HONA.out.size (by omega)]; exact kz56) (hK2 _ _ ?_))
        clear hK2
        rw [Array.toArray_toList]
        rw [HF3.out]
        simp only [Act.put]
        refine wpList_step (fun K2 hK2 => ?_)
        go_simp
        refine hK2 _ _ ?_
        clear hK2
        refine wpList_want (by rfl) (fun K2 hK2 => wp_load_mid 56 _ rfl (A1 + 1) 848 rfl ((cb).extract 848 (848 + 24)).toList _ (World.rangeAt_of_block HP2.out 848 24) Tryz.underlying56 rfl (by rw [ext_len HONB.out.size (by omega)]; exact kz56) (hK2 _ _ ?_))
        clear hK2
        rw [Array.toArray_toList]
        rw [HE3.out]
        simp only [Act.put]
        refine wpList_step (fun K2 hK2 => ?_)
        go_simp
        refine hK2 _ _ ?_
        clear hK2
        refine wpList_step (fun K2 hK2 => ?_)
        go_simp
        refine hK2 _ _ ?_
        clear hK2
        refine wpList_nil ?_
        go_wp2
        go_roundw
        case rel => exact ⟨i + 1, by omega, by go_num, HBE⟩
        case measure => simp [intOf]; omega
      · have hin2 : ¬ (i : Int) < (n : Int) := by omega
        go_wp2_with fail
        refine (shown32_any _ (HT.out.below HBi.out)).mono ?_
        rintro e w9 ⟨rfl, hb9⟩
        have HB9 := Lib.hid (below_step HBi.out hb9)
        clear hb9
        go_wp2
        go_ret
        exact ⟨rfl, HB9.out⟩
    · have hR := makeP_err her
      rw [hR] at hrd ⊢
      obtain ⟨ra, rcp, rfl⟩ := hrd.form
      obtain ⟨er, hr2⟩ : ∃ er, (makeP S l rt th).2 = er := ⟨_, rfl⟩
      rw [hr2] at her ⊢
      have hne : (er != 0) = true := by simpa using her
      have HB2 := Lib.hid (below_step (below_step HB1.out hb2) ((Below.refl _ W2).alloc (Nat.le_refl _) (.cells #[.int .i64 0, .slice ra 0 rcp] 36)))
      have HA2 := Lib.hid (Blk.new W2 36 #[.int .i64 0, .slice ra 0 rcp])
      clear hrd hb2 hR hr2 her x0 x1 x2 x3 y0 y1
      go_upto_region 4 with fail
      obtain ⟨A, hA⟩ : ∃ A, W2.heap.size = A := ⟨_, rfl⟩
      rw [hA] at HA2 ⊢
      generalize W2.alloc (.cells #[.int .i64 0, .slice ra 0 rcp] 36) = W3 at *
      clear hA
      have a1 := HA2.out.cell 1
      go_wp2_with fail
      refine (shown32_any _ (HT.out.below HB2.out)).mono ?_
      rintro e w9 ⟨rfl, hb9⟩
      have HB9 := Lib.hid (below_step HB2.out hb9)
      clear hb9
      go_wp2
      go_ret
      exact ⟨rfl, HB9.out⟩
end
end Go.Proofs.YtppccacfdpkkgaaGreatDoor
