/-
  PLAIN: where a field ends: the scan over runes that a closure with a state makes, as a scan over bytes; the pieces of a line. No program in sight.
-/
import Derived.Test.YtoclgcneclbfiaaDoorPlainS
import Derived.Lib.TrimU
namespace Go.Proofs.YtoclgcneclbfiaaDoor
open Go.RowKit

/-- The first blank that is not within a quotation, counted from a place; and whether the text ends within one. -/
def scan (b : Bool) (pos : Nat) : List UInt8 → Int × Bool
  | [] => (-1, b)
  | c :: t => if c = 34 then scan (!b) (pos + 1) t else if c = 32 ∧ b = false then (pos, b) else scan b (pos + 1) t
theorem drop_get (s : ByteArray) (k : Nat) (h : k < s.size) : (L s).drop k = s[k] :: (L s).drop (k + 1) := by
  rw [List.drop_eq_getElem_cons (by rw [L_length]; exact h), L_get s k h]
theorem scan_end (s : ByteArray) (b : Bool) (pos : Nat) (h : ¬ pos < s.size) : scan b pos ((L s).drop pos) = (-1, b) := by
  rw [List.drop_eq_nil_of_le (by rw [L_length]; omega)]; rfl
theorem scan_quote (s : ByteArray) (b : Bool) (pos : Nat) (h : pos < s.size) (hc : s[pos].toNat = 34) : scan b pos ((L s).drop pos) = scan (!b) (pos + 1) ((L s).drop (pos + 1)) := by
  rw [drop_get s pos h, scan, if_pos (UInt8.toNat_inj.1 hc)]
theorem scan_blank (s : ByteArray) (pos : Nat) (h : pos < s.size) (hc : s[pos].toNat = 32) : scan false pos ((L s).drop pos) = ((pos : Int), false) := by
  have e : s[pos] = 32 := UInt8.toNat_inj.1 hc
  rw [drop_get s pos h, scan, e, if_neg (by decide), if_pos ⟨rfl, rfl⟩]
theorem scan_other (s : ByteArray) (b : Bool) (pos : Nat) (h : pos < s.size) (h1 : s[pos].toNat ≠ 34) (h2 : s[pos].toNat ≠ 32 ∨ b = true) : scan b pos ((L s).drop pos) = scan b (pos + 1) ((L s).drop (pos + 1)) := by
  rw [drop_get s pos h, scan, if_neg (fun e => h1 (by rw [e]; rfl)), if_neg]
  rintro ⟨e, e2⟩
  rcases h2 with h2 | h2
  · exact h2 (by rw [e]; rfl)
  · rw [h2] at e2; cases e2
theorem get!_eq (s : ByteArray) (i : Nat) (h : i < s.size) : s.get! i = s[i] := by
  obtain ⟨a⟩ := s
  show a[i]! = a[i]'h
  exact getElem!_pos a i h

theorem decodeN_low (n b0 b1 b2 b3 : Nat) (h : b0 < 128) : Lib.decodeN n b0 b1 b2 b3 = (b0, 1) := by
  unfold Lib.decodeN; rw [if_pos h]
theorem decodeN_high (n b0 b1 b2 b3 : Nat) (h : ¬ b0 < 128) : 128 ≤ (Lib.decodeN n b0 b1 b2 b3).1 ∧ ((Lib.decodeN n b0 b1 b2 b3).2 = 1 ∨ ((Lib.decodeN n b0 b1 b2 b3).2 = 2 ∧ 1 < n ∧ 128 ≤ b1) ∨ ((Lib.decodeN n b0 b1 b2 b3).2 = 3 ∧ 2 < n ∧ 128 ≤ b1 ∧ 128 ≤ b2) ∨ ((Lib.decodeN n b0 b1 b2 b3).2 = 4 ∧ 3 < n ∧ 128 ≤ b1 ∧ 128 ≤ b2 ∧ 128 ≤ b3)) := by
  unfold Lib.decodeN
  rw [if_neg h]
  repeat' split
  all_goals refine ⟨by simp only; omega, ?_⟩
  all_goals first
    | exact .inl rfl
    | exact .inr (.inl ⟨rfl, by omega, by omega⟩)
    | exact .inr (.inr (.inl ⟨rfl, by omega, by omega, by omega⟩))
    | exact .inr (.inr (.inr ⟨rfl, by omega, by omega, by omega, by omega⟩))
/-- A byte below 128 is a rune by itself. -/
theorem decode_low (s : ByteArray) (pos : Nat) (h : pos < s.size) (hc : s[pos].toNat < 128) : Utf8.decode s pos = (s[pos].toNat, 1) := by
  rw [Lib.decode_at, get!_eq s pos h, decodeN_low _ _ _ _ _ hc]
/-- Any other rune is at least 128, and none of its bytes is below 128. -/
theorem decode_high (s : ByteArray) (pos : Nat) (h : pos < s.size) (hc : ¬ s[pos].toNat < 128) : 128 ≤ (Utf8.decode s pos).1 ∧ ∀ b, scan b pos ((L s).drop pos) = scan b (pos + (Utf8.decode s pos).2) ((L s).drop (pos + (Utf8.decode s pos).2)) := by
  have key := decodeN_high (s.size - pos) s[pos].toNat (s.get! (pos + 1)).toNat (s.get! (pos + 2)).toNat (s.get! (pos + 3)).toNat hc
  rw [← get!_eq s pos h, ← Lib.decode_at] at key
  obtain ⟨k1, k2⟩ := key
  refine ⟨k1, fun b => ?_⟩
  have one : ∀ p, (hp : p < s.size) → 128 ≤ (s.get! p).toNat → scan b p ((L s).drop p) = scan b (p + 1) ((L s).drop (p + 1)) := fun p hp h128 => by
    rw [get!_eq s p hp] at h128
    exact scan_other s b p hp (by omega) (.inl (by omega))
  have h0 : 128 ≤ (s.get! pos).toNat := by rw [get!_eq s pos h]; omega
  rcases k2 with e | ⟨e, n1, a1⟩ | ⟨e, n1, a1, a2⟩ | ⟨e, n1, a1, a2, a3⟩ <;> rw [e]
  · exact one pos h h0
  · rw [one pos h h0, one (pos + 1) (by omega) a1]
  · rw [one pos h h0, one (pos + 1) (by omega) a1, one (pos + 2) (by omega) a2]
  · rw [one pos h h0, one (pos + 1) (by omega) a1, one (pos + 2) (by omega) a2, one (pos + 3) (by omega) a3]
theorem L_tail (s : ByteArray) (a : Nat) : L (s.extract a s.size) = (L s).drop a := by
  rw [L_extract]
  exact List.take_of_length_le (by rw [List.length_drop, L_length]; omega)
theorem L_head (s : ByteArray) (a : Nat) : L (s.extract 0 a) = (L s).take a := by rw [L_extract]; rfl
/-- What a scan comes to: none, or a place, outside a quotation. -/
theorem scan_range : ∀ (l : List UInt8) (b : Bool) (pos : Nat), (scan b pos l).1 = -1 ∨ ((pos : Int) ≤ (scan b pos l).1 ∧ (scan b pos l).1 < pos + l.length ∧ (scan b pos l).2 = false)
  | [], b, pos => .inl rfl
  | c :: t, b, pos => by
    unfold scan
    split
    · rcases scan_range t (!b) (pos + 1) with h | ⟨h1, h2, h3⟩
      · exact .inl h
      · exact .inr ⟨by omega, by simp only [List.length_cons]; omega, h3⟩
    · split
      · next h => exact .inr ⟨Int.le_refl _, by simp only [List.length_cons]; omega, h.2⟩
      · rcases scan_range t b (pos + 1) with h | ⟨h1, h2, h3⟩
        · exact .inl h
        · exact .inr ⟨by omega, by simp only [List.length_cons]; omega, h3⟩
/-- The pieces of a line, between blanks that are not within a quotation. -/
def piecesF : Nat → List UInt8 → List (List UInt8)
  | 0, _ => []
  | f + 1, l => if (scan false 0 l).1 < 0 then [l] else l.take (scan false 0 l).1.toNat :: piecesF f (l.drop ((scan false 0 l).1.toNat + 1))
def pieces (l : List UInt8) : List (List UInt8) := piecesF (l.length + 1) l
theorem piecesF_last {f : Nat} {l : List UInt8} (h : (scan false 0 l).1 < 0) : piecesF (f + 1) l = [l] := by rw [piecesF, if_pos h]
theorem piecesF_more {f : Nat} {l : List UInt8} (h : ¬ (scan false 0 l).1 < 0) : piecesF (f + 1) l = l.take (scan false 0 l).1.toNat :: piecesF f (l.drop ((scan false 0 l).1.toNat + 1)) := by rw [piecesF, if_neg h]
theorem piecesF_length : ∀ (f : Nat) (l : List UInt8), (piecesF f l).length ≤ l.length + 1
  | 0, l => by simp [piecesF]
  | f + 1, l => by
    rw [piecesF]
    split
    · simp
    · next h =>
      have ih := piecesF_length f (l.drop ((scan false 0 l).1.toNat + 1))
      rcases scan_range l false 0 with h1 | ⟨h1, h2, _⟩
      · omega
      · simp only [List.length_cons, List.length_drop] at *
        omega
theorem pieces_pos (l : List UInt8) : 1 ≤ (pieces l).length := by
  unfold pieces
  rw [piecesF]
  split <;> simp
theorem pieces_length (l : List UInt8) : (pieces l).length ≤ l.length + 1 := piecesF_length _ _
/-- Does a text begin with a quotation mark? -/
def startsQ (l : List UInt8) : Bool := [34].isPrefixOf l
/-- The field that a piece writes. -/
def fieldOf (p : List UInt8) : Option (Bool × List UInt8) :=
  if startsQ p then (unquoteL p).map fun t => (true, t) else if bareB p then some (false, p) else none
/-- All fields of a list of pieces, if all are fields. -/
def fieldsOf (l : List (List UInt8)) : Option (List (Bool × List UInt8)) := l.mapM fieldOf
/-- What Split returns: an error number, and the fields. -/
def splitL (l : List UInt8) : Int × List (Bool × List UInt8) :=
  if 4096 < l.length then (3, []) else if l = [] then (0, []) else
    match fieldsOf (pieces l) with
    | none => (6, [])
    | some fs => if 64 < fs.length then (3, []) else (0, fs)
theorem splitL_some {l : List UInt8} {fs : List (Bool × List UInt8)} (h1 : l.length ≤ 4096) (h2 : l ≠ []) (h : fieldsOf (pieces l) = some fs) : splitL l = if 64 < fs.length then (3, []) else (0, fs) := by
  unfold splitL
  rw [if_neg (by omega), if_neg h2, h]
theorem splitL_none {l : List UInt8} (h1 : l.length ≤ 4096) (h2 : l ≠ []) (h : fieldsOf (pieces l) = none) : splitL l = (6, []) := by
  unfold splitL
  rw [if_neg (by omega), if_neg h2, h]
theorem fieldsOf_snoc {l : List (List UInt8)} {p : List UInt8} {fs : List (Bool × List UInt8)} {f : Bool × List UInt8} (h : fieldsOf l = some fs) (hp : fieldOf p = some f) : fieldsOf (l ++ [p]) = some (fs ++ [f]) := by
  unfold fieldsOf at *
  rw [List.mapM_append, h]
  simp [hp]
theorem fieldsOf_snoc_none {l : List (List UInt8)} {p : List UInt8} (hp : fieldOf p = none) : fieldsOf (l ++ [p]) = none := by
  unfold fieldsOf
  rw [List.mapM_append]
  cases h : l.mapM fieldOf <;> simp [hp]
theorem fieldsOf_prefix {l m : List (List UInt8)} (h : fieldsOf l = none) (hp : l <+: m) : fieldsOf m = none := by
  obtain ⟨k, rfl⟩ := hp
  unfold fieldsOf at *
  rw [List.mapM_append, h]
  rfl
theorem fieldsOf_length {l : List (List UInt8)} {fs : List (Bool × List UInt8)} (h : fieldsOf l = some fs) : fs.length = l.length := by
  induction l generalizing fs with
  | nil => simp [fieldsOf] at h; subst h; rfl
  | cons a t ih =>
    unfold fieldsOf at h ih
    rw [List.mapM_cons] at h
    cases h1 : fieldOf a with
    | none => rw [h1] at h; cases h
    | some f =>
      cases h2 : t.mapM fieldOf with
      | none => rw [h1, h2] at h; cases h
      | some r =>
        rw [h1, h2] at h
        cases h
        simp [ih h2]
theorem fieldOf_quoted {p t : List UInt8} (h1 : startsQ p = true) (h2 : unquoteL p = some t) : fieldOf p = some (true, t) := by simp [fieldOf, h1, h2]
theorem fieldOf_bad {p : List UInt8} (h1 : startsQ p = true) (h2 : unquoteL p = none) : fieldOf p = none := by simp [fieldOf, h1, h2]
theorem fieldOf_bare {p : List UInt8} (h1 : startsQ p = false) (h2 : bareB p = true) : fieldOf p = some (false, p) := by simp [fieldOf, h1, h2]
theorem fieldOf_none {p : List UInt8} (h1 : startsQ p = false) (h2 : bareB p = false) : fieldOf p = none := by simp [fieldOf, h1, h2]
theorem unquote_text {l t : List UInt8} (h : unquoteL l = some t) : textB t = true := by
  unfold unquoteL at h
  split at h
  · next hc => cases h; exact hc.1
  · cases h
end Go.Proofs.YtoclgcneclbfiaaDoor
