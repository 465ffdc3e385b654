/-
  PLAIN: the names that the checker has seen are the names of the elements before. No walk.
-/
import Derived.Test.YtkddeliifadcoaaDoorC5
namespace Go.Proofs.YtkddeliifadcoaaDoor
open Go.RowKit
def keysG {α : Type} (g : α → List UInt8 × List UInt8) (l : List α) (ks0 : List (List UInt8 × List UInt8)) : List (List UInt8 × List UInt8) := l.foldl (fun acc x => g x :: acc) ks0
theorem keysG_nil {α : Type} (g : α → List UInt8 × List UInt8) (ks0 : List (List UInt8 × List UInt8)) : keysG g [] ks0 = ks0 := rfl
theorem keysG_snoc {α : Type} (g : α → List UInt8 × List UInt8) (l : List α) (x : α) (ks0 : List (List UInt8 × List UInt8)) : keysG g (l ++ [x]) ks0 = g x :: keysG g l ks0 := by
  unfold keysG
  rw [List.foldl_append]
  rfl
theorem keysG_take {α : Type} (g : α → List UInt8 × List UInt8) (l : List α) (k : Nat) (h : k < l.length) (ks0 : List (List UInt8 × List UInt8)) : keysG g (l.take (k + 1)) ks0 = g l[k] :: keysG g (l.take k) ks0 := by
  rw [List.take_succ_eq_append_getElem h, keysG_snoc]
theorem mem_keysG {α : Type} (g : α → List UInt8 × List UInt8) (p : List UInt8 × List UInt8) : ∀ (l : List α) (ks0 : List (List UInt8 × List UInt8)), p ∈ keysG g l ks0 ↔ (∃ x ∈ l, g x = p) ∨ p ∈ ks0
  | [], ks0 => by simp [keysG]
  | y :: l, ks0 => by
    have ih := mem_keysG g p l (g y :: ks0)
    have e : keysG g (y :: l) ks0 = keysG g l (g y :: ks0) := rfl
    rw [e, ih]
    simp only [List.mem_cons, exists_eq_or_imp]
    constructor
    · rintro (h | h | h)
      · exact .inl (.inr h)
      · exact .inl (.inl h.symm)
      · exact .inr h
    · rintro ((h | h) | h)
      · exact .inr (.inl h.symm)
      · exact .inl h
      · exact .inr (.inr h)
def gD (d : Dv) : List UInt8 × List UInt8 := (dvK, L d.name)
def gR (r : Rk) : List UInt8 × List UInt8 := (rkK, L r.name)
def gS (x : St) : List UInt8 × List UInt8 := (stK x.div, L x.name)
def gC (c : Cp) : List UInt8 × List UInt8 := (cpK, L c.name)
def ksD (S : Sp) (k : Nat) : List (List UInt8 × List UInt8) := keysG gD (S.ds.take k) []
def ksR (S : Sp) (k : Nat) : List (List UInt8 × List UInt8) := keysG gR (S.rs.take k) (ksD S S.ds.length)
def ksS (S : Sp) (k : Nat) : List (List UInt8 × List UInt8) := keysG gS (S.ss.take k) (ksR S S.rs.length)
def ksC (S : Sp) (k : Nat) : List (List UInt8 × List UInt8) := keysG gC (S.cs.take k) (ksS S S.ss.length)
theorem seenE_nmE {k : List UInt8} {nm : ByteArray} {ks : List (List UInt8 × List UInt8)} {es : List ByteArray} (n : Int) (h : (k, L nm) ∈ ks ↔ L nm ∈ es.map L) : seenE k nm ks n = nmE nm es n := by
  unfold seenE nmE
  by_cases h1 : nameB (L nm) = false
  · rw [if_pos h1, if_pos h1]
  · rw [if_neg h1, if_neg h1]
    by_cases h2 : (k, L nm) ∈ ks
    · rw [if_pos h2, if_pos (h.1 h2)]
    · rw [if_neg h2, if_neg (fun x => h2 (h.2 x))]
theorem mem_names {α : Type} {l : List α} {f : α → ByteArray} {x : List UInt8} : x ∈ (l.map f).map L ↔ ∃ y ∈ l, L (f y) = x := by simp
theorem ksD_kind {S : Sp} {k : Nat} {p : List UInt8 × List UInt8} (h : p ∈ ksD S k) : p.1 = dvK := by
  rcases (mem_keysG _ _ _ _).1 h with ⟨x, _, rfl⟩ | h
  · rfl
  · cases h
theorem ksR_kind {S : Sp} {k : Nat} {p : List UInt8 × List UInt8} (h : p ∈ ksR S k) : p.1 = rkK ∨ p.1 = dvK := by
  rcases (mem_keysG _ _ _ _).1 h with ⟨x, _, rfl⟩ | h
  · exact .inl rfl
  · exact .inr (ksD_kind h)
theorem ksS_kind {S : Sp} {k : Nat} {p : List UInt8 × List UInt8} (h : p ∈ ksS S k) : (∃ n, p.1 = stK n) ∨ p.1 = rkK ∨ p.1 = dvK := by
  rcases (mem_keysG _ _ _ _).1 h with ⟨x, _, rfl⟩ | h
  · exact .inl ⟨_, rfl⟩
  · exact .inr (ksR_kind h)
theorem seenD {S : Sp} {k : Nat} (h : k < S.ds.length) : seenE dvK S.ds[k].name (ksD S k) (dvE S.ds[k]) = errD S k := by
  rw [errD_is h]
  refine seenE_nmE _ ?_
  unfold ksD
  rw [mem_keysG, mem_names]
  constructor
  · rintro (⟨x, hx, e⟩ | h)
    · exact ⟨x, hx, (Prod.mk.inj e).2⟩
    · cases h
  · rintro ⟨x, hx, e⟩
    exact .inl ⟨x, hx, by unfold gD; rw [e]⟩
theorem seenR {S : Sp} {k : Nat} (h : k < S.rs.length) : seenE rkK S.rs[k].name (ksR S k) (rkE S.rs[k]) = errR S k := by
  rw [errR_is h]
  refine seenE_nmE _ ?_
  unfold ksR
  rw [mem_keysG, mem_names]
  constructor
  · rintro (⟨x, hx, e⟩ | h)
    · exact ⟨x, hx, (Prod.mk.inj e).2⟩
    · exact absurd (show rkK = dvK from ksD_kind h) (by decide)
  · rintro ⟨x, hx, e⟩
    exact .inl ⟨x, hx, by unfold gR; rw [e]⟩
theorem seenC {S : Sp} {k : Nat} (h : k < S.cs.length) : seenE cpK S.cs[k].name (ksC S k) (cpE S S.cs[k]) = errC S k := by
  rw [errC_is h]
  refine seenE_nmE _ ?_
  unfold ksC
  rw [mem_keysG, mem_names]
  constructor
  · rintro (⟨x, hx, e⟩ | h)
    · exact ⟨x, hx, (Prod.mk.inj e).2⟩
    · rcases ksS_kind h with ⟨n, e⟩ | e | e
      · have := (List.cons.inj (show (99 : UInt8) :: [111, 117, 112, 108, 101, 114] = 115 :: _ from e)).1
        exact absurd this (by decide)
      · exact absurd (show cpK = rkK from e) (by decide)
      · exact absurd (show cpK = dvK from e) (by decide)
  · rintro ⟨x, hx, e⟩
    exact .inl ⟨x, hx, by unfold gC; rw [e]⟩
theorem itoa_small_inj : ∀ i j : Fin 6, Lib.itoa ((i.val : Nat) : Int) = Lib.itoa ((j.val : Nat) : Int) → i = j := by decide +kernel
theorem stK_inj {a b : Int} (ha : 0 ≤ a) (ha2 : a < 6) (hb : 0 ≤ b) (hb2 : b < 6) (h : stK a = stK b) : a = b := by
  obtain ⟨i, rfl⟩ := Int.eq_ofNat_of_zero_le ha
  obtain ⟨j, rfl⟩ := Int.eq_ofNat_of_zero_le hb
  unfold stK at h
  have h2 := List.append_cancel_left h
  have := itoa_small_inj ⟨i, by omega⟩ ⟨j, by omega⟩ h2
  have := congrArg Fin.val this
  simp only at this
  omega
theorem errS_div {S : Sp} {i : Nat} (hi : i < S.ss.length) (h : errS S i = 0) : 0 ≤ S.ss[i].div ∧ S.ss[i].div < S.ds.length := by
  rw [errS_is hi] at h
  split at h
  · cases h
  · split at h
    · next hd => exact hd
    · cases h
theorem seenS {S : Sp} {k : Nat} (h : k < S.ss.length) (h6 : S.ds.length ≤ 6) (he : ∀ j, j < k → errS S j = 0) : stE0 S.ss[k] S.ds.length (ksS S k) = errS S k := by
  rw [errS_is h]
  unfold stE0
  by_cases h1 : nameB (L S.ss[k].name) = false
  · rw [if_pos h1, if_pos h1]
  · rw [if_neg h1, if_neg h1]
    by_cases h2 : 0 ≤ S.ss[k].div ∧ S.ss[k].div < S.ds.length
    · rw [if_pos h2, if_pos h2]
      refine seenE_nmE _ ?_
      unfold ksS
      rw [mem_keysG, mem_names]
      constructor
      · rintro (⟨x, hx, e⟩ | h)
        · refine ⟨x, List.mem_filter.2 ⟨hx, ?_⟩, (Prod.mk.inj e).2⟩
          rw [List.mem_take_iff_getElem] at hx
          obtain ⟨j, hj, rfl⟩ := hx
          have hd := errS_div (by omega) (he j (by omega))
          have := stK_inj hd.1 (by omega) h2.1 (by omega) (Prod.mk.inj e).1
          simpa using this
        · rcases ksR_kind h with e | e
          · have := (List.cons.inj (show (115 : UInt8) :: _ = 114 :: _ from e)).1
            exact absurd this (by decide)
          · have := (List.cons.inj (show (115 : UInt8) :: _ = 100 :: _ from e)).1
            exact absurd this (by decide)
      · rintro ⟨x, hx, e⟩
        rw [List.mem_filter] at hx
        exact .inl ⟨x, hx.1, by unfold gS; rw [e, show x.div = S.ss[k].div by simpa using hx.2]⟩
    · rw [if_neg h2, if_neg h2]
end Go.Proofs.YtkddeliifadcoaaDoor
