/-
  CONTRACT: the reference's ParseNote: it tries all spellings.
-/
import Derived.Test.YtoclgcneclbfiaaDoorW14
namespace Go.Proofs.YtoclgcneclbfiaaDoor
open Go.RowKit
/-- A spelling: the letter of note i, sign b (0 flat, 1 none, 2 sharp), octave o - 1. -/
def sgL : Nat → List UInt8 | 0 => [98] | 1 => [] | _ => [35]
def spL (i o b : Nat) : List UInt8 := nmL i ++ sgL b ++ Lib.itoa ((o : Int) - 1)
theorem spell_hit : ∀ (i : Fin 12) (o : Fin 11) (b : Fin 3), (nmL i.val).length = 1 → parseNoteL (spL i.val o.val b.val) = noteFin (12 * (o.val : Int) + i.val + ((b.val : Int) - 1)) := by decide +kernel
/-- None of the spellings ahead of this one is s. -/
def Miss (s : List UInt8) (i o b : Nat) : Prop := ∀ i' o' b', i' < 12 → (nmL i').length = 1 → o' < 11 → b' < 3 → (i' < i ∨ i' = i ∧ (o' < o ∨ o' = o ∧ b' < b)) → spL i' o' b' ≠ s
theorem miss_start (s : List UInt8) : Miss s 0 0 0 := by
  intro i o b _ _ _ _ h
  omega
theorem miss_b {s : List UInt8} {i o b : Nat} (h : Miss s i o b) (hn : spL i o b ≠ s) : Miss s i o (b + 1) := by
  intro i' o' b' h1 h2 h3 h4 h5
  by_cases e : i' = i ∧ o' = o ∧ b' = b
  · obtain ⟨rfl, rfl, rfl⟩ := e
    exact hn
  · exact h i' o' b' h1 h2 h3 h4 (by omega)
theorem miss_o {s : List UInt8} {i o b : Nat} (h : Miss s i o b) (hb : 3 ≤ b) : Miss s i (o + 1) 0 := by
  intro i' o' b' h1 h2 h3 h4 h5
  exact h i' o' b' h1 h2 h3 h4 (by omega)
theorem miss_i {s : List UInt8} {i o b : Nat} (h : Miss s i o b) (hb : 11 ≤ o) : Miss s (i + 1) 0 0 := by
  intro i' o' b' h1 h2 h3 h4 h5
  exact h i' o' b' h1 h2 h3 h4 (by omega)
theorem miss_skip {s : List UInt8} {i : Nat} (h : Miss s i 0 0) (hb : (nmL i).length ≠ 1) : Miss s (i + 1) 0 0 := by
  intro i' o' b' h1 h2 h3 h4 h5
  by_cases e : i' = i
  · subst e; exact absurd h2 hb
  · exact h i' o' b' h1 h2 h3 h4 (by omega)
theorem oct_hit {n : Int} {r : List UInt8} (h : noteOct n r ≠ (0, 6)) : ∃ o : Nat, o < 11 ∧ Lib.itoa ((o : Int) - 1) = r := by
  by_cases h1 : r = [45, 49]
  · exact ⟨0, by omega, by rw [h1, show ((0 : Nat) : Int) - 1 = -1 from rfl, itoa_neg (-1) (by omega), show -(-1 : Int) = 1 from rfl, itoa_small 1 (by omega) (by omega)]; rfl⟩
  by_cases h2 : r.length = 1
  · match r, h2 with
    | [d], _ =>
      cases hd : digB (d.toNat : Int)
      · exact absurd (noteOct_bad1 n rfl hd) h
      · have hd2 : 48 ≤ d.toNat ∧ d.toNat ≤ 57 := by
          simp [digB] at hd
          omega
        refine ⟨d.toNat - 48 + 1, by omega, ?_⟩
        rw [itoa_small _ (by omega) (by omega)]
        congr 1
        apply UInt8.toNat_inj.1
        rw [UInt8.toNat_ofNat']
        omega
  · exact absurd (noteOct_bad n h1 h2) h
theorem letter_hit : ∀ c : Fin 7, ∃ i : Nat, i < 12 ∧ nmL i = [UInt8.ofNat (97 + c.val)] := by
  intro c
  match c with
  | 0 => exact ⟨9, by decide⟩
  | 1 => exact ⟨11, by decide⟩
  | 2 => exact ⟨0, by decide⟩
  | 3 => exact ⟨2, by decide⟩
  | 4 => exact ⟨4, by decide⟩
  | 5 => exact ⟨5, by decide⟩
  | 6 => exact ⟨7, by decide⟩
theorem miss_all {s : List UInt8} {b : Nat} (h : Miss s 12 0 b) : parseNoteL s = (0, 6) := by
  by_cases hs : parseNoteL s = (0, 6)
  · exact hs
  exfalso
  match s, h, hs with
  | [], _, hs => exact hs rfl
  | c :: r, h, hs =>
    have e : parseNoteL (c :: r) = if (c.toNat : Int) < 97 ∨ 103 < (c.toNat : Int) then (0, 6) else noteSign (st (c.toNat - 97)) r := rfl
    by_cases hc : (c.toNat : Int) < 97 ∨ 103 < (c.toNat : Int)
    · rw [e, if_pos hc] at hs
      exact hs rfl
    · rw [e, if_neg hc] at hs
      obtain ⟨i, hi, hn⟩ := letter_hit ⟨c.toNat - 97, by omega⟩
      have hc2 : UInt8.ofNat (97 + (c.toNat - 97)) = c := by
        apply UInt8.toNat_inj.1
        rw [UInt8.toNat_ofNat']
        omega
      dsimp only at hn
      rw [hc2] at hn
      have hl : (nmL i).length = 1 := by rw [hn]; rfl
      have go : ∀ (b : Nat) (t : List UInt8) (n : Int), b < 3 → noteOct n t ≠ (0, 6) → sgL b ++ t = r → False := by
        intro b t n hb h1 h2
        obtain ⟨o, ho, he⟩ := oct_hit h1
        exact h i o b hi hl ho hb (by omega) (by unfold spL; rw [hn, he, ← h2]; rfl)
      generalize st (c.toNat - 97) = m at hs
      unfold noteSign at hs
      split at hs
      · exact go 2 _ _ (by omega) hs rfl
      · exact go 0 _ _ (by omega) hs rfl
      · exact go 1 _ _ (by omega) hs rfl
theorem rdigits_as (d : ByteArray) {n : Int} (hd : L d = Lib.itoa n) (w : World) (h0 : -9223372036854775808 ≤ n) (h1 : n ≤ 9223372036854775807) :
    Calls Tryd.prog 37 #[.int .i64 n] w fun e w' => e = .returned (.string d) ∧ Below w.heap.size w w' := by
  have := rdigits_any n w h0 h1
  rwa [mk_of_L hd] at this
theorem ne_L {x s : ByteArray} (h : (!x.toList == s.toList) = true) : L x ≠ L s := by
  intro e
  rw [eq_of_L e] at h
  simp at h
theorem eq_L {x s : ByteArray} (h : (!x.toList == s.toList) = false) : L x = L s := by
  have he : x.toList = s.toList := by simpa using h
  rw [Lib.toList_data, Lib.toList_data] at he
  exact he
theorem sp0 {k j : Nat} {d : ByteArray} (hd : L d = Lib.itoa ((j : Int) - 1)) : L (nm k ++ ⟨#[98]⟩ ++ d) = spL k j 0 := by
  rw [L_append, L_append, hd]
  rfl
theorem sp1 {k j : Nat} {d : ByteArray} (hd : L d = Lib.itoa ((j : Int) - 1)) : L (nm k ++ ⟨#[]⟩ ++ d) = spL k j 1 := by
  rw [L_append, L_append, hd]
  rfl
theorem sp2 {k j : Nat} {d : ByteArray} (hd : L d = Lib.itoa ((j : Int) - 1)) : L (nm k ++ ⟨#[35]⟩ ++ d) = spL k j 2 := by
  rw [L_append, L_append, hd]
  rfl
theorem hit_is {s : ByteArray} {k j b : Nat} {n : Int} (h : spL k j b = L s) (hk : k < 12) (hj : j < 11) (hb : b < 3) (hone : (nm k).size = 1) (hn : n = 12 * (j : Int) + k + ((b : Int) - 1)) : parseNoteL (L s) = noteFin n := by
  rw [← h, hn]
  exact spell_hit ⟨k, hk⟩ ⟨j, hj⟩ ⟨b, hb⟩ hone
set_option maxRecDepth 100000 in
set_option maxHeartbeats 3200000 in
theorem rparseNote_any (s : ByteArray) (w : World) :
    Calls Tryd.prog 17 #[.string s] w fun e w' => e = .returned (pairV (parseNoteL (L s))) ∧ Below w.heap.size w w' := by
  go_enter Tryd.func17, Tryd.ntmps17
  go_wp2
  go_loopw [4] (fun i wr => ∃ k : Nat, k ≤ 12 ∧ i = .int .i64 k ∧ RowKit.Hid (Miss (L s) k 0 0) ∧ Below w.heap.size w wr) (fun i _ => 12 - (intOf i).toNat)
  case atStart => exact ⟨0, by omega, rfl, Lib.hid (miss_start _), Below.refl _ _⟩
  case round =>
    obtain ⟨k, hk, rfl, hm, hB⟩ := hrel
    by_cases hlt : k < 12
    · by_cases hone : (nm k).size = 1
      · go_wp2_with fail
        refine (rnames_at k hlt _).mono ?_
        rintro e w1 ⟨nb, rfl, hc, hb1, hb2⟩
        have hB1 := below_step hB hb2
        clear hb2 hB
        go_wp2_with fail
        go_loopw [6] (fun o wr => ∃ j : Nat, j ≤ 11 ∧ o = .int .i64 ((j : Int) - 1) ∧ RowKit.Hid (Miss (L s) k j 0) ∧ Below w.heap.size w wr) (fun o _ => 11 - (intOf o + 1).toNat)
        case atStart => exact ⟨0, by omega, rfl, hm, hB1⟩
        case round =>
          obtain ⟨j, hj, rfl, hm2, hB2⟩ := hrel
          by_cases hjl : j < 11
          · obtain ⟨d, hd⟩ := mkL (Lib.itoa ((j : Int) - 1))
            have hdz := itoa_le ((j : Int) - 1) (by omega) (by omega)
            have hdz2 : d.size ≤ 21 := by rw [size_of_L hd]; exact hdz
            have HD := Lib.hid hd
            clear hd hdz
            go_wp2_with fail
            refine (rdigits_as d HD.out _ (by omega) (by omega)).mono ?_
            rintro e w2 ⟨rfl, hb3⟩
            have hB3 := below_step hB2 hb3
            clear hb3 hB2
            go_wp2_with fail
            go_loopw [8] (fun o wr => ∃ b : Nat, b ≤ 3 ∧ o = .int .i64 ((b : Int) - 1) ∧ RowKit.Hid (Miss (L s) k j b) ∧ Below w.heap.size w wr) (fun o _ => 3 - (intOf o + 1).toNat)
            case atStart => exact ⟨0, by omega, rfl, hm2, hB3⟩
            case round =>
              obtain ⟨b, hb, rfl, hm3, hB4⟩ := hrel
              by_cases hbl : b < 3
              · rcases (show b = 0 ∨ b = 1 ∨ b = 2 by omega) with rfl | rfl | rfl
                · go_wp2
                  all_goals first
                    | (go_roundw
                       case rel => exact ⟨1, by omega, by go_num, Lib.hid (miss_b hm3.out (by have h9 := ne_L (by assumption); rwa [sp0 HD.out] at h9)), hB4.alloc hB4.size _⟩
                       case measure => simp [intOf])
                    | (have h9 := eq_L (by assumption)
                       rw [sp0 HD.out] at h9
                       have H := hit_is (n := 12 * (j : Int) + (k : Int) + -1) h9 hlt hjl (by omega) hone (by omega)
                       go_ret2
                       refine ⟨?_, hB4.alloc hB4.size _⟩
                       rw [H]
                       first
                         | (rw [noteFin_bad (by omega)]; rfl)
                         | (rw [noteFin_ok (by omega) (by omega)]; rfl))
                · go_wp2
                  all_goals first
                    | (go_roundw
                       case rel => exact ⟨2, by omega, by go_num, Lib.hid (miss_b hm3.out (by have h9 := ne_L (by assumption); rwa [sp1 HD.out] at h9)), hB4.alloc hB4.size _⟩
                       case measure => simp [intOf])
                    | (have h9 := eq_L (by assumption)
                       rw [sp1 HD.out] at h9
                       have H := hit_is (n := 12 * (j : Int) + (k : Int)) h9 hlt hjl (by omega) hone (by omega)
                       go_ret2
                       refine ⟨?_, hB4.alloc hB4.size _⟩
                       rw [H]
                       first
                         | (rw [noteFin_bad (by omega)]; rfl)
                         | (rw [noteFin_ok (by omega) (by omega)]; rfl))
                · go_wp2
                  all_goals first
                    | (go_roundw
                       case rel => exact ⟨3, by omega, by go_num, Lib.hid (miss_b hm3.out (by have h9 := ne_L (by assumption); rwa [sp2 HD.out] at h9)), hB4.alloc hB4.size _⟩
                       case measure => simp [intOf])
                    | (have h9 := eq_L (by assumption)
                       rw [sp2 HD.out] at h9
                       have H := hit_is (n := 12 * (j : Int) + (k : Int) + 1) h9 hlt hjl (by omega) hone (by omega)
                       go_ret2
                       refine ⟨?_, hB4.alloc hB4.size _⟩
                       rw [H]
                       first
                         | (rw [noteFin_bad (by omega)]; rfl)
                         | (rw [noteFin_ok (by omega) (by omega)]; rfl))
              · go_wp2
                all_goals go_roundw
                case rel => exact ⟨j + 1, by omega, by go_num, Lib.hid (miss_o hm3.out (by omega)), hB4⟩
                case measure => simp [intOf]; omega
          · go_wp2
            all_goals go_roundw
            case rel => exact ⟨k + 1, by omega, by go_num, Lib.hid (miss_i hm2.out (by omega)), hB2⟩
            case measure => simp [intOf]; omega
      · have hn1 := Lib.hid (miss_skip hm.out (fun e => hone e))
        go_wp2_with fail
        refine (rnames_at k hlt _).mono ?_
        rintro e w1 ⟨nb, rfl, hc, hb1, hb2⟩
        have hB1 := below_step hB hb2
        go_wp2
        all_goals go_roundw
        case rel => exact ⟨k + 1, by omega, by go_num, hn1, hB1⟩
        case measure => simp [intOf]; omega
    · go_wp2
      go_ret2
      exact ⟨by rw [miss_all (show Miss (L s) 12 0 0 by have := hm.out; rwa [show k = 12 by omega] at this)]; rfl, hB⟩
end Go.Proofs.YtoclgcneclbfiaaDoor
