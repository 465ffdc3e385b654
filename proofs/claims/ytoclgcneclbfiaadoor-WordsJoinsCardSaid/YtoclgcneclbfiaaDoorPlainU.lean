/-
  PLAIN: the step from field to field is the step from piece to piece; Join of Split, Split of Join. No program in sight.
-/
import Derived.Test.YtoclgcneclbfiaaDoorPlainT
namespace Go.Proofs.YtoclgcneclbfiaaDoor
open Go.RowKit
theorem shut_no : ∀ l : List UInt8, shut l = false → cloE l = l.length
  | [], _ => rfl
  | [_], _ => rfl
  | c :: d :: t, h => by
    by_cases h1 : c = 34
    · subst h1
      by_cases e : d = 34
      · subst e
        rw [shut_two] at h
        rw [cloE_two, shut_no t h]
        simp only [List.length_cons]
        omega
      · rw [shut_stop e] at h; cases h
    · rw [shut_other h1] at h
      rw [cloE_other h1, shut_no (d :: t) h]
      simp only [List.length_cons]
      omega
/-- Where a scan stops there is a blank. -/
theorem scan_at : ∀ (l : List UInt8) (b : Bool) (pos j : Nat), (scan b pos l).1 = ((pos + j : Nat) : Int) → l[j]? = some 32
  | [], b, pos, j, h => by unfold scan at h; simp only at h; omega
  | c :: t, b, pos, j, h => by
    unfold scan at h
    by_cases h1 : c = 34
    · rw [if_pos h1] at h
      rcases scan_range t (!b) (pos + 1) with h2 | ⟨h2, _⟩
      · omega
      · obtain ⟨i, rfl⟩ : ∃ i, j = i + 1 := ⟨j - 1, by omega⟩
        rw [List.getElem?_cons_succ]
        exact scan_at t (!b) (pos + 1) i (by rw [h]; omega)
    · rw [if_neg h1] at h
      by_cases h2 : c = 32 ∧ b = false
      · rw [if_pos h2] at h
        simp only at h
        obtain rfl : j = 0 := by omega
        rw [h2.1]; rfl
      · rw [if_neg h2] at h
        rcases scan_range t b (pos + 1) with h3 | ⟨h3, _⟩
        · omega
        · obtain ⟨i, rfl⟩ : ∃ i, j = i + 1 := ⟨j - 1, by omega⟩
          rw [List.getElem?_cons_succ]
          exact scan_at t b (pos + 1) i (by rw [h]; omega)
theorem startsQ_take {c : UInt8} (h : ¬ c = 34) (t : List UInt8) (m : Nat) : startsQ ((c :: t).take m) = false := by
  cases m with
  | zero => rfl
  | succ m => rw [List.take_succ_cons, startsQ_cons]; simpa using h
theorem bare_no {l : List UInt8} (h : (34 : UInt8) ∈ l) : bareB l = false := by
  unfold bareB
  have : l.all bareU = false := by
    rw [Bool.eq_false_iff]
    intro ha
    have := List.all_eq_true.1 ha 34 h
    revert this
    decide
  rw [this, Bool.and_false]
/-- The rest of the step, where the piece is the field. -/
def stepR (l : List UInt8) (n : Nat) : Option (List (Bool × List UInt8)) := match fieldOf (l.take n) with
  | none => none
  | some f => if n < l.length ∧ (l[n]? ≠ some 32 ∨ n + 1 = l.length) then none else (DS (l.drop (n + 1))).map (f :: ·)
theorem step_more {l : List UInt8} {k : Nat} (hl : l ≠ []) (h : (scan false 0 l).1 = k) (hk : k < l.length) (h32 : l[k]? = some 32) : DS l = stepR l k := by
  unfold DS stepR
  rw [if_neg hl, pieces_more h, fieldsOf_cons]
  cases fieldOf (l.take k) with
  | none => rfl
  | some f =>
    simp only [Option.bind_some]
    by_cases he : k + 1 = l.length
    · rw [if_pos ⟨hk, .inr he⟩, List.drop_eq_nil_of_le (by omega), pieces_nil]; rfl
    · rw [if_neg (by rintro ⟨_, h | h⟩; exact h h32; exact he h)]
      unfold DS
      rw [if_neg (by rw [List.drop_eq_nil_iff]; omega)]
theorem step_last {l : List UInt8} {n : Nat} (hl : l ≠ []) (h : (scan false 0 l).1 = -1) (hn : n = l.length) : DS l = stepR l n := by
  subst hn
  unfold DS stepR
  rw [if_neg hl, pieces_last (by omega), fieldsOf_one, List.take_length]
  cases fieldOf l with
  | none => rfl
  | some f =>
    simp only
    rw [if_neg (by omega), List.drop_eq_nil_of_le (by omega)]
    rfl
theorem ds_none {l : List UInt8} (hl : l ≠ []) (h : ∀ p, p = l ∨ (∃ k : Nat, (scan false 0 l).1 = k ∧ p = l.take k) → fieldOf p = none) : DS l = none := by
  unfold DS
  rw [if_neg hl]
  by_cases hs : (scan false 0 l).1 < 0
  · rw [pieces_last hs, fieldsOf_one, h l (.inl rfl)]; rfl
  · obtain ⟨k, hk⟩ : ∃ k : Nat, (scan false 0 l).1 = k := ⟨(scan false 0 l).1.toNat, by omega⟩
    rw [pieces_more hk, fieldsOf_cons, h _ (.inr ⟨k, hk, rfl⟩)]; rfl
theorem stepR_none {l : List UInt8} {n : Nat} (h : fieldOf (l.take n) = none) : stepR l n = none := by unfold stepR; rw [h]
theorem stepR_bad {l : List UInt8} {n : Nat} (h1 : n < l.length) (h2 : l[n]? ≠ some 32) : stepR l n = none := by
  unfold stepR
  cases fieldOf (l.take n) with
  | none => rfl
  | some f => exact if_pos ⟨h1, .inl h2⟩
/-- THE STEP. -/
theorem ds_step (l : List UInt8) (hl : l ≠ []) : DS l = stepR l (endN l) := by
  cases l with
  | nil => exact absurd rfl hl
  | cons c t =>
    by_cases hc : c = 34
    · subst hc
      have hn : endN (34 :: t) = cloE t + 1 := by rw [endN, if_pos rfl, Nat.add_comm]
      rw [hn]
      have hs : scan false 0 (34 :: t) = scan true 1 t := by rw [scan, if_pos rfl]; rfl
      cases hsh : shut t with
      | false =>
        have e := shut_no t hsh
        have hf : fieldOf (34 :: t) = none := by
          refine fieldOf_bad (by rw [startsQ_cons]; rfl) ?_
          cases hu : unquoteL (34 :: t) with
          | none => rfl
          | some s => rw [(unquote_shut hu).2] at hsh; cases hsh
        refine step_last hl ?_ (by rw [e]; rfl)
        rw [hs, scan_kin, hsh]
        rfl
      | true =>
        have hs2 : scan false 0 (34 :: t) = scan false (1 + cloE t) (t.drop (cloE t)) := by rw [hs, scan_kin, hsh]; rfl
        have hle := cloE_le t
        cases hr : t.drop (cloE t) with
        | nil =>
          have e : cloE t = t.length := by rw [List.drop_eq_nil_iff] at hr; omega
          refine step_last hl ?_ (by rw [e]; rfl)
          rw [hs2, hr]
          rfl
        | cons d u =>
          have hlt : cloE t < t.length := by
            have := congrArg List.length hr
            simp only [List.length_drop, List.length_cons] at this
            omega
          have hd : (34 :: t)[cloE t + 1]? = some d := by
            rw [List.getElem?_cons_succ]
            have := congrArg (·[0]?) hr
            simpa [List.getElem?_drop] using this
          have h34 : ¬ d = 34 := fun e => after_shut t hsh u (by rw [hr, e])
          by_cases h32 : d = 32
          · subst h32
            refine step_more hl (k := cloE t + 1) ?_ (by simp only [List.length_cons]; omega) hd
            rw [hs2, hr, scan, if_neg (by decide), if_pos ⟨rfl, rfl⟩, Nat.add_comm 1]
          · rw [stepR_bad (by simp only [List.length_cons]; omega) (by rw [hd]; intro e; exact h32 (Option.some.inj e))]
            refine ds_none hl fun p hp => ?_
            have key : ∀ t' v : List UInt8, t = t' ++ v → (∀ w, v ≠ 34 :: w) → (v = [] ∨ ∃ w, v = 32 :: w) → unquoteL (34 :: t') = none := fun t' v ht hv hv2 => by
              cases hu : unquoteL (34 :: t') with
              | none => rfl
              | some s =>
                obtain ⟨hq, _⟩ := unquote_is hu
                have ht' : t' = dbl s ++ [34] := by
                  unfold quoteL at hq
                  exact (List.cons.inj hq).2.symm
                have e1 : cloE t = (dbl s).length + 1 := by
                  rw [ht, ht', List.append_assoc, (clo_dbl s _).1]
                  congr 1
                  exact (clo_mark hv).1
                have e2 : t.drop (cloE t) = v := by
                  rw [e1, ht, ht']
                  exact List.drop_left' (by simp)
                rw [hr] at e2
                rcases hv2 with rfl | ⟨w, rfl⟩
                · cases e2
                · exact absurd (List.cons.inj e2).1 h32
            rcases hp with rfl | ⟨k, hk, rfl⟩
            · exact fieldOf_bad (by rw [startsQ_cons]; rfl) (key t [] (by simp) (fun w e => by cases e) (.inl rfl))
            · have hat : (34 :: t)[k]? = some 32 := scan_at _ false 0 k (by rw [hk]; omega)
              obtain ⟨j, rfl⟩ : ∃ j, k = j + 1 := ⟨k - 1, by
                rcases Nat.eq_zero_or_pos k with rfl | h
                · rw [List.getElem?_cons_zero] at hat; exact absurd (Option.some.inj hat) (by decide)
                · omega⟩
              rw [List.getElem?_cons_succ] at hat
              obtain ⟨hj, hj2⟩ := List.getElem?_eq_some_iff.1 hat
              have hdrop : t.drop j = 32 :: t.drop (j + 1) := by rw [List.drop_eq_getElem_cons hj, hj2]
              rw [List.take_succ_cons]
              exact fieldOf_bad (by rw [startsQ_cons]; rfl) (key (t.take j) (t.drop j) (List.take_append_drop j t).symm (fun w e => by rw [hdrop] at e; exact absurd (List.cons.inj e).1 (by decide)) (.inr ⟨_, hdrop⟩))
    · have hn : endN (c :: t) = bareE (c :: t) := by rw [endN, if_neg hc]
      rw [hn]
      have hle := bareE_le (c :: t)
      by_cases h34 : (34 : UInt8) ∈ (c :: t).take (bareE (c :: t))
      · rw [stepR_none (fieldOf_none (startsQ_take hc t _) (bare_no h34))]
        refine ds_none hl fun p hp => ?_
        rcases hp with rfl | ⟨k, hk, rfl⟩
        · exact fieldOf_none (by rw [startsQ_cons]; simpa using hc) (bare_no (List.mem_of_mem_take h34))
        · refine fieldOf_none (startsQ_take hc t _) (bare_no ?_)
          have hge : bareE (c :: t) ≤ k := by
            rcases scan_past (c :: t) 0 with h | h <;> omega
          have : (c :: t).take (bareE (c :: t)) = ((c :: t).take k).take (bareE (c :: t)) := by rw [List.take_take, Nat.min_eq_left hge]
          rw [this] at h34
          exact List.mem_of_mem_take h34
      · have hsb := scan_bare (c :: t) 0 h34
        by_cases hlt : bareE (c :: t) < (c :: t).length
        · rw [if_pos hlt] at hsb
          refine step_more hl (k := bareE (c :: t)) (by rw [hsb]; simp) hlt (bareE_at _ hlt)
        · rw [if_neg hlt] at hsb
          exact step_last hl (by rw [hsb]) (by omega)
theorem splitL_ds (l : List UInt8) (h : l.length ≤ 4096) : splitL l = match DS l with
    | none => (6, [])
    | some fs => if 64 < fs.length then (3, []) else (0, fs) := by
  unfold splitL DS
  rw [if_neg (by omega)]
  by_cases h0 : l = []
  · rw [if_pos h0, if_pos h0]; rfl
  · rw [if_neg h0, if_neg h0]
    rfl
/-- How a field is written; a line. -/
def wr (f : Bool × List UInt8) : List UInt8 := if f.1 = true then quoteL f.2 else f.2
def lineL : List (Bool × List UInt8) → List UInt8
  | [] => []
  | [f] => wr f
  | f :: g :: r => wr f ++ 32 :: lineL (g :: r)
def rightF (f : Bool × List UInt8) : Bool := rightB f.1 f.2
/-- What Join says. -/
def joinL (fs : List (Bool × List UInt8)) : Int × List UInt8 :=
  if 64 < fs.length then (3, []) else if fs.all rightF = false then (2, []) else if 4096 < (lineL fs).length then (3, []) else (0, lineL fs)
theorem field_back {f : Bool × List UInt8} (h : rightF f = true) : fieldOf (wr f) = some f := by
  obtain ⟨q, l⟩ := f
  unfold rightF rightB at h
  cases q with
  | true =>
    simp only [if_true] at h
    exact fieldOf_quoted (by rw [wr, if_pos rfl, quoteL, List.cons_append, startsQ_cons]; rfl) (by rw [wr, if_pos rfl]; exact unquote_quote h)
  | false =>
    simp only [Bool.false_eq_true, if_false] at h
    rw [wr, if_neg Bool.false_ne_true]
    refine fieldOf_bare ?_ h
    cases l with
    | nil => rfl
    | cons c t =>
      rw [startsQ_cons, decide_eq_false_iff_not]
      rintro rfl
      rw [bare_no (by simp)] at h
      cases h
theorem field_wr {p : List UInt8} {f : Bool × List UInt8} (h : fieldOf p = some f) : wr f = p ∧ rightF f = true := by
  unfold fieldOf at h
  split at h
  · obtain ⟨t, ht, rfl⟩ := Option.map_eq_some_iff.1 h
    obtain ⟨h1, h2⟩ := unquote_is ht
    exact ⟨by rw [wr, if_pos rfl]; exact h1, by unfold rightF rightB; simpa using h2⟩
  · split at h
    · next hb => cases h; exact ⟨by rw [wr, if_neg Bool.false_ne_true], by unfold rightF rightB; simpa using hb⟩
    · cases h
theorem wr_pos {f : Bool × List UInt8} (h : rightF f = true) : 1 ≤ (wr f).length := by
  obtain ⟨q, l⟩ := f
  cases q with
  | true => rw [wr, if_pos rfl]; unfold quoteL; simp
  | false =>
    have hb : bareB l = true := h
    rw [wr, if_neg Bool.false_ne_true]
    unfold bareB at hb
    simp only [Bool.and_eq_true, decide_eq_true_eq] at hb
    exact hb.1.1
theorem bareE_all : ∀ (l r : List UInt8), l.all bareU = true → (r = [] ∨ ∃ u, r = 32 :: u) → bareE (l ++ r) = l.length
  | [], r, _, h => by
    rcases h with rfl | ⟨u, rfl⟩
    · rfl
    · rw [List.nil_append, bareE, if_pos rfl]; rfl
  | c :: t, r, h, hr => by
    rw [List.all_cons, Bool.and_eq_true] at h
    have hc : ¬ c = 32 := by
      rintro rfl
      exact absurd h.1 (by decide)
    rw [List.cons_append, bareE, if_neg hc, bareE_all t r h.2 hr, List.length_cons, Nat.add_comm]
theorem endN_wr {f : Bool × List UInt8} {r : List UInt8} (h : rightF f = true) (hr : r = [] ∨ ∃ u, r = 32 :: u) : endN (wr f ++ r) = (wr f).length := by
  obtain ⟨q, l⟩ := f
  cases q with
  | true =>
    rw [wr, if_pos rfl]
    unfold quoteL
    rw [List.cons_append, List.cons_append, endN, if_pos rfl, List.append_assoc, (clo_dbl l _).1]
    have : cloE ([34] ++ r) = 1 := (clo_mark (r := r) (fun u e => by
      rcases hr with rfl | ⟨v, rfl⟩
      · cases e
      · exact absurd (List.cons.inj e).1 (by decide))).1
    rw [this]
    simp only [List.length_cons, List.length_append, List.length_nil]
    omega
  | false =>
    have hb : bareB l = true := h
    rw [wr, if_neg Bool.false_ne_true]
    have hall : l.all bareU = true := by
      unfold bareB at hb
      simp only [Bool.and_eq_true] at hb
      exact hb.2
    cases l with
    | nil => simp [bareB] at hb
    | cons c t =>
      have hc : ¬ c = 34 := by
        rintro rfl
        rw [bare_no (by simp)] at hb
        cases hb
      dsimp only
      rw [List.cons_append, endN, if_neg hc, ← List.cons_append, bareE_all _ r hall hr]
theorem line_pos {f : Bool × List UInt8} {r : List (Bool × List UInt8)} (h : rightF f = true) : lineL (f :: r) ≠ [] := by
  have := wr_pos h
  cases r with
  | nil => rw [lineL, ne_eq, ← List.length_eq_zero_iff]; omega
  | cons g r => rw [lineL]; simp
/-- Split of Join. -/
theorem ds_line : ∀ (fs : List (Bool × List UInt8)), fs.all rightF = true → DS (lineL fs) = some fs
  | [], _ => rfl
  | [f], h => by
    have hf : rightF f = true := by simpa using h
    have he := endN_wr (r := []) hf (.inl rfl)
    rw [List.append_nil] at he
    rw [lineL, ds_step _ (by have := wr_pos hf; rw [ne_eq, ← List.length_eq_zero_iff]; omega), he]
    unfold stepR
    rw [List.take_length, field_back hf]
    simp only
    rw [if_neg (by omega), List.drop_eq_nil_of_le (by omega)]
    rfl
  | f :: g :: r, h => by
    rw [List.all_cons, Bool.and_eq_true] at h
    have hg : rightF g = true := by have := h.2; rw [List.all_cons, Bool.and_eq_true] at this; exact this.1
    have he := endN_wr (r := 32 :: lineL (g :: r)) h.1 (.inr ⟨_, rfl⟩)
    have hp : 1 ≤ (lineL (g :: r)).length := by
      have := line_pos (r := r) hg
      rw [ne_eq, ← List.length_eq_zero_iff] at this
      omega
    rw [lineL, ds_step _ (by simp), he]
    unfold stepR
    rw [List.take_left' rfl, field_back h.1]
    simp only
    have hat : (wr f ++ 32 :: lineL (g :: r))[(wr f).length]? = some 32 := by rw [List.getElem?_append_right (Nat.le_refl _), Nat.sub_self]; rfl
    rw [if_neg (by
      rintro ⟨_, h2 | h2⟩
      · exact h2 hat
      · simp only [List.length_append, List.length_cons] at h2; omega)]
    have hdr : (wr f ++ 32 :: lineL (g :: r)).drop ((wr f).length + 1) = lineL (g :: r) := by
      rw [← List.drop_drop, List.drop_left' rfl]; rfl
    rw [hdr, ds_line (g :: r) h.2]
    rfl
/-- Join of Split. -/
theorem line_ds : ∀ (n : Nat) (l : List UInt8) (fs : List (Bool × List UInt8)), l.length < n → DS l = some fs → lineL fs = l ∧ fs.all rightF = true
  | 0, l, fs, h, _ => by omega
  | n + 1, l, fs, h, hd => by
    by_cases hl : l = []
    · subst hl
      have : fs = [] := by
        have e : DS [] = some [] := rfl
        rw [e] at hd
        exact (Option.some.inj hd).symm
      subst this
      exact ⟨rfl, rfl⟩
    · rw [ds_step l hl] at hd
      unfold stepR at hd
      cases hf : fieldOf (l.take (endN l)) with
      | none => rw [hf] at hd; cases hd
      | some f =>
        rw [hf] at hd
        simp only at hd
        obtain ⟨w1, w2⟩ := field_wr hf
        split at hd
        · cases hd
        · next hc =>
          obtain ⟨gs, hg, rfl⟩ := Option.map_eq_some_iff.1 hd
          have hle := endN_le l
          have hlp : 1 ≤ l.length := by rw [← List.length_eq_zero_iff] at hl; omega
          obtain ⟨i1, i2⟩ := line_ds n _ gs (by rw [List.length_drop]; omega) hg
          refine ⟨?_, by rw [List.all_cons, w2, i2]; rfl⟩
          by_cases hlt : endN l < l.length
          · have h32 : l[endN l]? = some 32 := by
              by_cases e : l[endN l]? = some 32
              · exact e
              · exact absurd ⟨hlt, .inl e⟩ hc
            have hne : ¬ endN l + 1 = l.length := fun e => hc ⟨hlt, .inr e⟩
            cases gs with
            | nil =>
              rw [lineL, eq_comm, List.drop_eq_nil_iff] at i1
              omega
            | cons g r =>
              rw [lineL, i1, w1]
              obtain ⟨h1, h2⟩ := List.getElem?_eq_some_iff.1 h32
              have : l.drop (endN l) = 32 :: l.drop (endN l + 1) := by rw [List.drop_eq_getElem_cons h1, h2]
              rw [← this, List.take_append_drop]
          · have hdn : l.drop (endN l + 1) = [] := List.drop_eq_nil_of_le (by omega)
            rw [hdn] at hg
            have e : DS [] = some [] := rfl
            rw [e] at hg
            cases hg
            rw [lineL, w1, List.take_of_length_le (by omega)]
theorem join_split {l : List UInt8} {fs : List (Bool × List UInt8)} (h : splitL l = (0, fs)) : joinL fs = (0, l) := by
  by_cases hl : 4096 < l.length
  · have e : splitL l = (3, []) := by unfold splitL; rw [if_pos hl]
    rw [e] at h
    cases h
  · rw [splitL_ds l (by omega)] at h
    cases hd : DS l with
    | none => rw [hd] at h; cases h
    | some gs =>
      rw [hd] at h
      simp only at h
      split at h
      · cases h
      · next h64 =>
        obtain rfl : gs = fs := (Prod.mk.inj h).2
        obtain ⟨h1, h2⟩ := line_ds _ l gs (Nat.lt_succ_self _) hd
        unfold joinL
        rw [if_neg h64, if_neg (by rw [h2]; decide), h1, if_neg hl]
theorem split_join {l : List UInt8} {fs : List (Bool × List UInt8)} (h : joinL fs = (0, l)) : splitL l = (0, fs) := by
  unfold joinL at h
  split at h
  · cases h
  · next h64 =>
    split at h
    · cases h
    · next hr =>
      split at h
      · cases h
      · next h4 =>
        cases h
        rw [splitL_ds _ (by omega), ds_line fs (by simpa using hr)]
        simp only
        rw [if_neg h64]
end Go.Proofs.YtoclgcneclbfiaaDoor
