/-
  CONTRACTS: the reference's Right and end.
-/
import Derived.Test.YtoclgcneclbfiaaDoorPlainU
import Derived.Test.YtoclgcneclbfiaaDoorW14
import Derived.Test.YtoclgcneclbfiaaDoorBlk
namespace Go.Proofs.YtoclgcneclbfiaaDoor
open Go.RowKit
def noMark (c : UInt8) : Bool := decide (c ≠ 32) && decide (c ≠ 34)
theorem bareB_ref (l : List UInt8) : bareB l = (decide (1 ≤ l.length) && (l.all noMark && textB l)) := by
  have h : l.all bareU = (l.all noMark && printedB 32 l) := by
    rw [Bool.eq_iff_iff]
    simp only [Bool.and_eq_true, printedB, List.all_eq_true]
    have hc : ∀ c : UInt8, bareU c = true ↔ noMark c = true ∧ prB 32 c = true := by
      intro c
      unfold bareU noMark prB
      simp only [Bool.and_eq_true, decide_eq_true_eq, ne_eq]
      have e32 : c = 32 ↔ c.toNat = 32 := ⟨fun e => by rw [e]; rfl, fun e => UInt8.toNat_inj.1 e⟩
      rw [e32]
      constructor
      · rintro ⟨⟨h1, h2⟩, h3⟩; exact ⟨⟨by omega, h3⟩, by omega, h2⟩
      · rintro ⟨⟨h1, h2⟩, h3, h4⟩; exact ⟨⟨by omega, h4⟩, h2⟩
    constructor
    · exact fun h => ⟨fun x hx => ((hc x).1 (h x hx)).1, fun x hx => ((hc x).1 (h x hx)).2⟩
    · exact fun h x hx => (hc x).2 ⟨h.1 x hx, h.2 x hx⟩
  unfold bareB textB
  rw [h]
  cases decide (1 ≤ l.length) <;> cases decide (l.length ≤ 200) <;> cases l.all noMark <;> cases printedB 32 l <;> rfl
theorem noMark_iff (c : UInt8) : noMark c = (!((c.toNat : Int) == 32) && !((c.toNat : Int) == 34)) := by
  have e1 : c = 32 ↔ (c.toNat : Int) = 32 := ⟨fun e => by rw [e]; rfl, fun e => UInt8.toNat_inj.1 (by have : (32 : UInt8).toNat = 32 := rfl; omega)⟩
  have e2 : c = 34 ↔ (c.toNat : Int) = 34 := ⟨fun e => by rw [e]; rfl, fun e => UInt8.toNat_inj.1 (by have : (34 : UInt8).toNat = 34 := rfl; omega)⟩
  unfold noMark
  rw [Bool.eq_iff_iff]
  simp [e1, e2]
set_option maxRecDepth 100000 in
set_option maxHeartbeats 1600000 in
theorem rright_bare (s : ByteArray) (w : World) (hs : s.size ≤ maxLen) (h0 : 0 < s.size) :
    Calls Tryd.prog 55 #[.agg #[.bool false, .string s]] w fun e w' => e = .returned (.bool (bareB (L s))) ∧ Below w.heap.size w w' := by
  have HL := Lib.hid (bareB_ref (L s))
  have HN := Lib.hid (L_length s)
  have CT := Lib.hid (fun W => rtext_any s W hs)
  have hb0 : Below w.heap.size w (w.alloc (.cells #[.bool false, .string s] 61)) := (Below.refl _ _).alloc (Nat.le_refl _) _
  have k0 : Blk (w.alloc (.cells #[.bool false, .string s] 61)) w.heap.size 61 #[.bool false, .string s] := Blk.new _ _ _
  have hz0 : ((s.size : Int) == 0) = false := by rw [beq_eq_false_iff_ne]; omega
  unfold maxLen at hs
  go_enter Tryd.func55, Tryd.ntmps55
  go_wp2
  go_loopw [3] (fun i wr => ∃ k : Nat, k ≤ s.size ∧ i = .int .i64 k ∧ RowKit.Hid (((L s).take k).all noMark = true) ∧ Below w.heap.size w wr ∧ Blk wr w.heap.size 61 #[.bool false, .string s]) (fun i _ => s.size - (intOf i).toNat)
  case atStart => exact ⟨0, by omega, rfl, Lib.hid (by simp), hb0, k0⟩
  case round =>
    obtain ⟨k, hk, rfl, hall, hB, hK⟩ := hrel
    obtain ⟨cA, cB, fA, fB⟩ := hK.two
    by_cases hlt : k < s.size
    · have HI := Lib.hid (noMark_iff s[k])
      have HY := Lib.hid (fun h => allTo_succ s noMark k hlt ▸ (by rw [hall.out, h]; rfl : (((L s).take k).all noMark && noMark s[k]) = true) : noMark s[k] = true → ((L s).take (k + 1)).all noMark = true)
      have HX := Lib.hid (all_no s noMark k hlt)
      go_wp2
      all_goals first
        | (go_roundw
           case rel => exact ⟨k + 1, by omega, by go_num, Lib.hid (HY.out (by rw [HI.out]; simp [*])), hB, hK⟩
           case measure => simp [intOf]; omega)
        | (have HF := HX.out (by
             rw [HI.out]
             first
               | (rw [show ((s[k].toNat : Int) == 32) = true from beq_iff_eq.2 (by assumption)]; rfl)
               | (have hor : ((s[k].toNat : Int) == 32) = true ∨ ((s[k].toNat : Int) == 34) = true := by assumption
                  rcases hor with h | h <;> simp [h]))
           go_ret
           exact ⟨ret_bool (by rw [HL.out, HF]; simp), hB⟩)
    · have HA := Lib.hid (take_all s k (by omega) ▸ hall.out : (L s).all noMark = true)
      go_wp2_with (go_at_call 25; refine (CT.out _).mono ?_; rintro e w' ⟨rfl, rfl⟩)
      go_ret
      exact ⟨ret_bool (by rw [HL.out, HA.out, HN.out, decide_eq_true (by omega : 1 ≤ s.size)]; simp), hB⟩
set_option maxHeartbeats 800000 in
theorem rright_any (q : Bool) (s : ByteArray) (w : World) (hs : s.size ≤ maxLen) :
    Calls Tryd.prog 55 #[.agg #[.bool q, .string s]] w fun e w' => e = .returned (.bool (rightB q (L s))) ∧ Below w.heap.size w w' := by
  have hb0 : Below w.heap.size w (w.alloc (.cells #[.bool q, .string s] 61)) := (Below.refl _ _).alloc (Nat.le_refl _) _
  cases q with
  | true =>
    have CT := Lib.hid (fun W => rtext_any s W hs)
    go_enter Tryd.func55, Tryd.ntmps55
    go_wp2_with (go_at_call 25; refine (CT.out _).mono ?_; rintro e w' ⟨rfl, rfl⟩)
    go_ret
    exact ⟨rfl, hb0⟩
  | false =>
    by_cases h0 : 0 < s.size
    · exact rright_bare s w hs h0
    · have hz : s.size = 0 := by omega
      have HR := Lib.hid (show rightB false (L s) = false by
        have hl := L_length s
        rw [hz, List.length_eq_zero_iff] at hl
        rw [hl]; rfl)
      have hz2 : ((s.size : Int) == 0) = true := by rw [beq_iff_eq]; omega
      clear hz h0
      go_enter Tryd.func55, Tryd.ntmps55
      go_wp2
      go_ret
      exact ⟨ret_bool HR.out.symm, hb0⟩
theorem drop_cons (s : ByteArray) (k : Nat) (h : k < s.size) : (L s).drop k = s[k] :: (L s).drop (k + 1) := by
  rw [List.drop_eq_getElem_cons (by rw [L_length]; exact h), L_get s k h]
theorem drop_end (s : ByteArray) (k : Nat) (h : s.size ≤ k) : (L s).drop k = [] := List.drop_eq_nil_of_le (by rw [L_length]; exact h)
theorem eq34n {c : UInt8} : ((c.toNat : Int) == 34) = decide (c = 34) := by
  rw [Bool.eq_iff_iff, beq_iff_eq, decide_eq_true_eq]
  exact ⟨fun e => UInt8.toNat_inj.1 (by have : (34 : UInt8).toNat = 34 := rfl; omega), fun e => by rw [e]; rfl⟩
theorem eq32n {c : UInt8} : ((c.toNat : Int) == 32) = decide (c = 32) := by
  rw [Bool.eq_iff_iff, beq_iff_eq, decide_eq_true_eq]
  exact ⟨fun e => UInt8.toNat_inj.1 (by have : (32 : UInt8).toNat = 32 := rfl; omega), fun e => by rw [e]; rfl⟩
theorem bareE_blank (t : List UInt8) : bareE (32 :: t) = 0 := by rw [bareE, if_pos rfl]
theorem bareE_other {c : UInt8} (h : ¬ c = 32) (t : List UInt8) : bareE (c :: t) = 1 + bareE t := by rw [bareE, if_neg h]
set_option maxRecDepth 100000 in
set_option maxHeartbeats 1600000 in
theorem rend_bare (s : ByteArray) (f n : Nat) (w : World) (hs : s.size ≤ 1000000) (hf : f < s.size) (hq : ((s[f].toNat : Int) == 34) = false) (hn : n = f + bareE ((L s).drop f)) :
    Calls Tryd.prog 54 #[.string s, .int .i64 f] w fun e w' => e = .returned (.int .i64 n) ∧ w = w' := by
  have HN := Lib.hid hn
  have f1 : (f : Int) < (s.size : Int) := by omega
  clear hn
  go_enter Tryd.func54, Tryd.ntmps54
  go_wp2
  go_loop [6] (fun i => ∃ k : Nat, f ≤ k ∧ k ≤ s.size ∧ i = .int .i64 k ∧ RowKit.Hid (n = k + bareE ((L s).drop k))) (fun i => s.size - (intOf i).toNat)
  case atStart => exact ⟨f, by omega, by omega, rfl, HN⟩
  case round =>
    obtain ⟨k, hk1, hk, rfl, hrel⟩ := hrel
    by_cases hlt : k < s.size
    · have HD := Lib.hid (drop_cons s k hlt)
      by_cases h1 : s[k] = 32
      · have hb : ((s[k].toNat : Int) == 32) = true := by rw [eq32n]; simpa using h1
        have HE := Lib.hid (show n = k by rw [hrel.out, HD.out, h1, bareE_blank]; rfl)
        clear h1
        go_wp2
        go_ret
        exact ⟨ret_int (by rw [HE.out]), rfl⟩
      · have hb : ((s[k].toNat : Int) == 32) = false := by rw [eq32n]; simpa using h1
        have HE := Lib.hid (show n = (k + 1) + bareE ((L s).drop (k + 1)) by rw [hrel.out, HD.out, bareE_other h1]; omega)
        clear h1
        go_wp2
        go_round
        case rel => exact ⟨k + 1, by omega, by omega, by go_num, HE⟩
        case measure => simp [intOf]; omega
    · have HE := Lib.hid (show n = s.size by rw [hrel.out, drop_end s k (by omega), bareE]; omega)
      go_wp2
      go_ret
      exact ⟨ret_int (by rw [HE.out]), rfl⟩
set_option maxRecDepth 100000 in
set_option maxHeartbeats 1600000 in
theorem rend_quoted (s : ByteArray) (f n : Nat) (w : World) (hs : s.size ≤ 1000000) (hf : f < s.size) (hq : ((s[f].toNat : Int) == 34) = true) (hn : n = f + 1 + cloE ((L s).drop (f + 1))) :
    Calls Tryd.prog 54 #[.string s, .int .i64 f] w fun e w' => e = .returned (.int .i64 n) ∧ w = w' := by
  have HN := Lib.hid hn
  have f1 : (f : Int) < (s.size : Int) := by omega
  clear hn
  go_enter Tryd.func54, Tryd.ntmps54
  go_wp2
  go_loop [6] (fun i => ∃ k : Nat, f ≤ k ∧ k ≤ s.size ∧ i = .int .i64 k ∧ RowKit.Hid (n = k + cloE ((L s).drop k))) (fun i => s.size - (intOf i).toNat)
  case atStart => exact ⟨f + 1, by omega, by omega, by go_num, HN⟩
  case round =>
    obtain ⟨k, hk1, hk, rfl, hrel⟩ := hrel
    by_cases hlt : k < s.size
    · have HD := Lib.hid (drop_cons s k hlt)
      by_cases h1 : s[k] = 34
      · have hb : ((s[k].toNat : Int) == 34) = true := by rw [eq34n]; simpa using h1
        by_cases h2 : k + 1 < s.size
        · have HD2 := Lib.hid (drop_cons s (k + 1) h2)
          have g1 : ((k : Int) + 1 == (s.size : Int)) = false := by rw [beq_eq_false_iff_ne]; omega
          have g2 : (k : Int) + 1 < (s.size : Int) := by omega
          by_cases h3 : s[k + 1] = 34
          · have hb2 : ((s[k + 1].toNat : Int) == 34) = true := by rw [eq34n]; simpa using h3
            have hb3 : ((s[k + 1].toNat : Int) != 34) = false := by simp only [bne, hb2]; rfl
            have HE := Lib.hid (show n = (k + 2) + cloE ((L s).drop (k + 2)) by rw [hrel.out, HD.out, HD2.out, h1, h3, cloE_two, show k + 1 + 1 = k + 2 from rfl]; omega)
            clear h1 h3
            go_wp2
            go_round
            case rel => exact ⟨k + 2, by omega, by omega, by go_num, HE⟩
            case measure => simp [intOf]; omega
          · have hb2 : ((s[k + 1].toNat : Int) == 34) = false := by rw [eq34n]; simpa using h3
            have hb3 : ((s[k + 1].toNat : Int) != 34) = true := by simp only [bne, hb2]; rfl
            have HE := Lib.hid (show n = k + 1 by rw [hrel.out, HD.out, HD2.out, h1, cloE_stop h3])
            clear h1 h3
            go_wp2
            go_ret
            exact ⟨ret_int (by rw [HE.out]; rfl), rfl⟩
        · have g1 : ((k : Int) + 1 == (s.size : Int)) = true := by rw [beq_iff_eq]; omega
          have HE := Lib.hid (show n = k + 1 by rw [hrel.out, HD.out, drop_end s (k + 1) (by omega)]; rfl)
          clear h1
          go_wp2
          go_ret
          exact ⟨ret_int (by rw [HE.out]; rfl), rfl⟩
      · have hb : ((s[k].toNat : Int) == 34) = false := by rw [eq34n]; simpa using h1
        have HE := Lib.hid (show n = (k + 1) + cloE ((L s).drop (k + 1)) by rw [hrel.out, HD.out, cloE_other h1]; omega)
        clear h1
        go_wp2
        go_round
        case rel => exact ⟨k + 1, by omega, by omega, by go_num, HE⟩
        case measure => simp [intOf]; omega
    · have HE := Lib.hid (show n = s.size by rw [hrel.out, drop_end s k (by omega), cloE]; omega)
      go_wp2
      go_ret
      exact ⟨ret_int (by rw [HE.out]), rfl⟩
theorem rend_any (s : ByteArray) (f n : Nat) (w : World) (hs : s.size ≤ 1000000) (hf : f < s.size) (hn : n = f + endN ((L s).drop f)) :
    Calls Tryd.prog 54 #[.string s, .int .i64 f] w fun e w' => e = .returned (.int .i64 n) ∧ w = w' := by
  rw [drop_cons s f hf, endN] at hn
  by_cases h : s[f] = 34
  · rw [if_pos h] at hn
    exact rend_quoted s f n w hs hf (by rw [eq34n]; simpa using h) (by omega)
  · rw [if_neg h, ← drop_cons s f hf] at hn
    exact rend_bare s f n w hs hf (by rw [eq34n]; simpa using h) hn
end Go.Proofs.YtoclgcneclbfiaaDoor
