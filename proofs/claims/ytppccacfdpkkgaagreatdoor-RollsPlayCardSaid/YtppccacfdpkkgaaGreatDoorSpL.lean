/-
  PLAIN: the error of an element, case by case. No program in sight.
-/
import Derived.Test.YtppccacfdpkkgaaGreatDoorSpP
namespace Go.Proofs.YtppccacfdpkkgaaGreatDoor
theorem nmE_form {nm : ByteArray} {es : List ByteArray} {n : Int} (h : nameB (L nm) = false) : nmE nm es n = 6 := by unfold nmE; rw [if_pos h]
theorem nmE_twice {nm e : ByteArray} {es : List ByteArray} {n : Int} (h : nameB (L nm) = true) (he : e ∈ es) (hl : L e = L nm) : nmE nm es n = 8 := by
  unfold nmE
  rw [if_neg (by rw [h]; decide), if_pos (by rw [← hl]; exact List.mem_map_of_mem he)]
theorem nmE_next {nm : ByteArray} {es : List ByteArray} {n : Int} (h : nameB (L nm) = true) (he : ∀ e ∈ es, L e ≠ L nm) : nmE nm es n = n := by
  unfold nmE
  rw [if_neg (by rw [h]; decide), if_neg]
  intro hm
  obtain ⟨e, h1, h2⟩ := List.mem_map.1 hm
  exact he e h1 h2
theorem mem_take_map {α β : Type} {l : List α} {f : α → β} {i k : Nat} (hk : k < i) (hi : i < l.length) : f (l[k]'(by omega)) ∈ (l.take i).map f := by
  refine List.mem_map_of_mem ?_
  rw [List.mem_take_iff_getElem]
  exact ⟨k, by omega, rfl⟩
theorem of_mem_take_map {α β : Type} {l : List α} {f : α → β} {i : Nat} (hi : i < l.length) {y : β} (h : y ∈ (l.take i).map f) : ∃ k, ∃ hk : k < i, y = f (l[k]'(by omega)) := by
  obtain ⟨x, hx, rfl⟩ := List.mem_map.1 h
  rw [List.mem_take_iff_getElem] at hx
  obtain ⟨k, hk, rfl⟩ := hx
  exact ⟨k, by omega, rfl⟩
theorem errD_is {S : Sp} {i : Nat} (hi : i < S.ds.length) : errD S i = nmE S.ds[i].name ((S.ds.take i).map (·.name)) (dvE S.ds[i]) := by
  unfold errD
  rw [List.getElem?_eq_getElem hi]
theorem errD_form {S : Sp} {i : Nat} (hi : i < S.ds.length) (h : nameB (L S.ds[i].name) = false) : errD S i = 6 := by rw [errD_is hi, nmE_form h]
theorem errD_twice {S : Sp} {i k : Nat} (hi : i < S.ds.length) (h : nameB (L S.ds[i].name) = true) (hk : k < i) (he : L (S.ds[k]'(by omega)).name = L S.ds[i].name) : errD S i = 8 := by
  rw [errD_is hi, nmE_twice h (mem_take_map (f := (·.name)) hk hi) he]
theorem errD_next {S : Sp} {i : Nat} (hi : i < S.ds.length) (h : nameB (L S.ds[i].name) = true) (he : ∀ k (hk : k < i), L (S.ds[k]'(by omega)).name ≠ L S.ds[i].name) : errD S i = dvE S.ds[i] := by
  rw [errD_is hi, nmE_next h]
  intro y hy
  obtain ⟨k, hk, rfl⟩ := of_mem_take_map (f := (·.name)) hi hy
  exact he k hk
theorem errR_is {S : Sp} {i : Nat} (hi : i < S.rs.length) : errR S i = nmE S.rs[i].name ((S.rs.take i).map (·.name)) (rkE S.rs[i]) := by
  unfold errR
  rw [List.getElem?_eq_getElem hi]
theorem errR_form {S : Sp} {i : Nat} (hi : i < S.rs.length) (h : nameB (L S.rs[i].name) = false) : errR S i = 6 := by rw [errR_is hi, nmE_form h]
theorem errR_twice {S : Sp} {i k : Nat} (hi : i < S.rs.length) (h : nameB (L S.rs[i].name) = true) (hk : k < i) (he : L (S.rs[k]'(by omega)).name = L S.rs[i].name) : errR S i = 8 := by
  rw [errR_is hi, nmE_twice h (mem_take_map (f := (·.name)) hk hi) he]
theorem errR_next {S : Sp} {i : Nat} (hi : i < S.rs.length) (h : nameB (L S.rs[i].name) = true) (he : ∀ k (hk : k < i), L (S.rs[k]'(by omega)).name ≠ L S.rs[i].name) : errR S i = rkE S.rs[i] := by
  rw [errR_is hi, nmE_next h]
  intro y hy
  obtain ⟨k, hk, rfl⟩ := of_mem_take_map (f := (·.name)) hi hy
  exact he k hk
theorem errC_is {S : Sp} {i : Nat} (hi : i < S.cs.length) : errC S i = nmE S.cs[i].name ((S.cs.take i).map (·.name)) (cpE S S.cs[i]) := by
  unfold errC
  rw [List.getElem?_eq_getElem hi]
theorem errC_form {S : Sp} {i : Nat} (hi : i < S.cs.length) (h : nameB (L S.cs[i].name) = false) : errC S i = 6 := by rw [errC_is hi, nmE_form h]
theorem errC_twice {S : Sp} {i k : Nat} (hi : i < S.cs.length) (h : nameB (L S.cs[i].name) = true) (hk : k < i) (he : L (S.cs[k]'(by omega)).name = L S.cs[i].name) : errC S i = 8 := by
  rw [errC_is hi, nmE_twice h (mem_take_map (f := (·.name)) hk hi) he]
theorem errC_next {S : Sp} {i : Nat} (hi : i < S.cs.length) (h : nameB (L S.cs[i].name) = true) (he : ∀ k (hk : k < i), L (S.cs[k]'(by omega)).name ≠ L S.cs[i].name) : errC S i = cpE S S.cs[i] := by
  rw [errC_is hi, nmE_next h]
  intro y hy
  obtain ⟨k, hk, rfl⟩ := of_mem_take_map (f := (·.name)) hi hy
  exact he k hk
theorem errS_is {S : Sp} {i : Nat} (hi : i < S.ss.length) : errS S i = if nameB (L S.ss[i].name) = false then 6 else if 0 ≤ S.ss[i].div ∧ S.ss[i].div < S.ds.length then nmE S.ss[i].name (((S.ss.take i).filter fun y => decide (y.div = S.ss[i].div)).map (·.name)) (stE S.ss[i]) else 4 := by
  unfold errS
  rw [List.getElem?_eq_getElem hi]
theorem errS_form {S : Sp} {i : Nat} (hi : i < S.ss.length) (h : nameB (L S.ss[i].name) = false) : errS S i = 6 := by rw [errS_is hi, if_pos h]
theorem errS_none {S : Sp} {i : Nat} (hi : i < S.ss.length) (h : nameB (L S.ss[i].name) = true) (hd : ¬ (0 ≤ S.ss[i].div ∧ S.ss[i].div < S.ds.length)) : errS S i = 4 := by
  rw [errS_is hi, if_neg (by rw [h]; decide), if_neg hd]
theorem errS_twice {S : Sp} {i k : Nat} (hi : i < S.ss.length) (h : nameB (L S.ss[i].name) = true) (hd : 0 ≤ S.ss[i].div ∧ S.ss[i].div < S.ds.length) (hk : k < i) (he : L (S.ss[k]'(by omega)).name = L S.ss[i].name) (hv : (S.ss[k]'(by omega)).div = S.ss[i].div) : errS S i = 8 := by
  rw [errS_is hi, if_neg (by rw [h]; decide), if_pos hd]
  refine nmE_twice (e := (S.ss[k]'(by omega)).name) h (List.mem_map_of_mem ?_) he
  rw [List.mem_filter, List.mem_take_iff_getElem]
  exact ⟨⟨k, by omega, rfl⟩, by simpa using hv⟩
theorem errS_next {S : Sp} {i : Nat} (hi : i < S.ss.length) (h : nameB (L S.ss[i].name) = true) (hd : 0 ≤ S.ss[i].div ∧ S.ss[i].div < S.ds.length) (he : ∀ k (hk : k < i), (S.ss[k]'(by omega)).div = S.ss[i].div → L (S.ss[k]'(by omega)).name ≠ L S.ss[i].name) : errS S i = stE S.ss[i] := by
  rw [errS_is hi, if_neg (by rw [h]; decide), if_pos hd, nmE_next h]
  intro y hy
  obtain ⟨x, hx, rfl⟩ := List.mem_map.1 hy
  rw [List.mem_filter, List.mem_take_iff_getElem] at hx
  obtain ⟨⟨k, hk, rfl⟩, h2⟩ := hx
  exact he k (by omega) (by simpa using h2)
theorem errP_is {S : Sp} {x : St} {k : Nat} (hk : k < x.parts.length) : errP S x k = ptE S x x.parts[k] := by
  unfold errP
  rw [List.getElem?_eq_getElem hk]
theorem ptE_is {S : Sp} {x : St} {p : Pt} (hd : x.div.toNat < S.ds.length) (h1 : 0 ≤ p.rank) (h2 : p.rank < S.rs.length) : ptE S x p =
    if S.ds[x.div.toNat].lo ≤ p.lo ∧ p.hi ≤ S.ds[x.div.toNat].hi ∧ p.lo ≤ p.hi ∧ -96 ≤ p.shift ∧ p.shift ≤ 96 then (if (S.rs[p.rank.toNat]'(by omega)).low ≤ p.lo + p.shift ∧ p.hi + p.shift < (S.rs[p.rank.toNat]'(by omega)).low + (S.rs[p.rank.toNat]'(by omega)).cnt then 0 else 4) else 7 := by
  unfold ptE
  rw [if_pos ⟨h1, h2⟩, List.getElem?_eq_getElem hd, List.getElem?_eq_getElem (by omega : p.rank.toNat < S.rs.length)]
theorem ptE_none {S : Sp} {x : St} {p : Pt} (h : ¬ (0 ≤ p.rank ∧ p.rank < S.rs.length)) : ptE S x p = 4 := by unfold ptE; rw [if_neg h]
theorem stopE_bad {S : Sp} {i : Nat} (hi : i < S.ss.length) (h : errS S i ≠ 0) : stopE S i = (0, errS S i) := by
  unfold stopE
  rw [List.getElem?_eq_getElem hi]
  exact if_pos h
theorem stopE_part {S : Sp} {i k : Nat} (hi : i < S.ss.length) (h : errS S i = 0) (hk : fst0 (errP S S.ss[i]) S.ss[i].parts.length = some k) : stopE S i = ((k : Int) + 1, errP S S.ss[i] k) := by
  unfold stopE
  rw [List.getElem?_eq_getElem hi]
  simp only
  rw [if_neg (by rw [h]; decide), hk]
theorem stopE_good {S : Sp} {i : Nat} (hi : i < S.ss.length) (h : errS S i = 0) (hk : fst0 (errP S S.ss[i]) S.ss[i].parts.length = none) : stopE S i = (0, 0) := by
  unfold stopE
  rw [List.getElem?_eq_getElem hi]
  simp only
  rw [if_neg (by rw [h]; decide), hk]
end Go.Proofs.YtppccacfdpkkgaaGreatDoor
