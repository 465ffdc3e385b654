/-
  MAPS IN MEMORY, read as lists of keys and values, whatever the key's type: look-up, store, len, a range over all entries in whatever order. No program in sight. MAPS IN MEMORY: a range over all entries; the laws at the operations, for the walk. No program in sight.
-/
import Derived.Maps.RangeWalk
import Derived.Maps.OwnOps
import Derived.WalkKit
import Derived.WalkSpells
import Derived.RangeFuncBox
import Derived.WalkSmall
import Derived.Lib.Hide
namespace Go.Proofs.YtkddeliifadcoaaDoor
open Go.RowKit
section
variable {κ : Type} [DecidableEq κ]
def findAt (x : κ) : List κ → List MapEntry → Nat → Option (Nat × Value)
  | k :: l, e :: es, i => if x = k then some (i, e.val) else findAt x l es (i + 1)
  | _, _, _ => none
/-- What the walks need of a key's type. -/
structure MapK (P : Program) (kt : TypeId) (ek : κ → Value) : Prop where
  find : ∀ (x : κ) (es : List MapEntry) (l : List κ) (w : World), es.map (·.key) = l.map ek → (Instr.findKey kt (ek x) es).run P w = .ok (findAt x l es 0) w
  chk : ∀ (b : Bool) (x : κ) (w : World), (Instr.checkKey b 10000 kt (ek x)).run P w = .ok () w
  bits : ∀ x, Instr.sameBits 10000 (ek x) (ek x) = true
def mget (x : κ) : List (κ × Value) → Option Value
  | [] => none
  | (k, v) :: l => if x = k then some v else mget x l
def mput (x : κ) (v : Value) : List (κ × Value) → List (κ × Value)
  | [] => [(x, v)]
  | (k, u) :: l => if x = k then (x, v) :: l else (k, u) :: mput x v l
theorem mget_put (x y : κ) (v : Value) : ∀ l : List (κ × Value), mget y (mput x v l) = if y = x then some v else mget y l
  | [] => by simp only [mput, mget]
  | (k, u) :: l => by
    rw [mput]
    by_cases h : x = k
    · rw [if_pos h, mget, mget, h]
      by_cases e : y = k <;> simp [e]
    · rw [if_neg h, mget, mget, mget_put x y v l]
      by_cases e : y = k
      · subst e
        rw [if_pos rfl, if_neg (fun e => h e.symm), if_pos rfl]
      · rw [if_neg e, if_neg e]
theorem mput_none {x : κ} (v : Value) : ∀ {l : List (κ × Value)}, mget x l = none → mput x v l = l ++ [(x, v)]
  | [], _ => rfl
  | (k, u) :: l, h => by
    rw [mget] at h
    by_cases e : x = k
    · rw [if_pos e] at h; cases h
    · rw [if_neg e] at h
      rw [mput, if_neg e, mput_none v h]; rfl
theorem mget_mem {x : κ} {v : Value} : ∀ {l : List (κ × Value)}, mget x l = some v → (x, v) ∈ l
  | [], h => by cases h
  | (k, u) :: l, h => by
    rw [mget] at h
    by_cases e : x = k
    · rw [if_pos e] at h; cases h; rw [e]; simp
    · rw [if_neg e] at h
      exact List.mem_cons_of_mem _ (mget_mem h)
theorem mget_no {x : κ} : ∀ {l : List (κ × Value)}, mget x l = none ↔ x ∉ l.map (·.1)
  | [] => by simp [mget]
  | (k, u) :: l => by
    rw [mget]
    by_cases e : x = k
    · simp [e]
    · rw [if_neg e, mget_no, List.map_cons, List.mem_cons, not_or]
      exact ⟨fun h => ⟨e, h⟩, fun h => h.2⟩
theorem mget_of_mem {x : κ} {v : Value} : ∀ {l : List (κ × Value)}, (l.map (·.1)).Nodup → (x, v) ∈ l → mget x l = some v
  | [], _, h => by cases h
  | (k, u) :: l, hn, h => by
    rw [List.map_cons, List.nodup_cons] at hn
    rw [mget]
    rcases List.mem_cons.1 h with e | h
    · cases e; rw [if_pos rfl]
    · rw [if_neg (fun (e : x = k) => hn.1 (by rw [← e]; exact List.mem_map.2 ⟨_, h, rfl⟩)), mget_of_mem hn.2 h]
theorem mput_keys {x : κ} {v : Value} : ∀ {l : List (κ × Value)}, mget x l ≠ none → (mput x v l).map (·.1) = l.map (·.1)
  | [], h => absurd rfl h
  | (k, u) :: l, h => by
    rw [mput]
    rw [mget] at h
    by_cases e : x = k
    · rw [if_pos e]; simp [e]
    · rw [if_neg e] at h
      rw [if_neg e, List.map_cons, mput_keys h, List.map_cons]
theorem mput_nodup {x : κ} {v : Value} {l : List (κ × Value)} (h : (l.map (·.1)).Nodup) : ((mput x v l).map (·.1)).Nodup := by
  cases hg : mget x l with
  | none =>
    rw [mput_none v hg, List.map_append, List.nodup_append]
    refine ⟨h, by simp, fun a ha b hb => ?_⟩
    simp only [List.map_cons, List.map_nil, List.mem_singleton] at hb
    subst hb
    exact fun e => mget_no.1 hg (e ▸ ha)
  | some u => rw [mput_keys (by rw [hg]; simp)]; exact h
theorem mput_len {x : κ} {v : Value} : ∀ {l : List (κ × Value)}, (mput x v l).length ≤ l.length + 1
  | [] => by simp [mput]
  | (k, u) :: l => by
    rw [mput]
    split
    · simp
    · simp only [List.length_cons]; have := mput_len (x := x) (v := v) (l := l); omega
/-- What findAt says, and what a change at that place makes. -/
theorem findAt_is {ek : κ → Value} (x : κ) : ∀ (l : List (κ × Value)) (es : List MapEntry) (i : Nat), es.map (fun e => (e.key, e.val)) = l.map (fun p => (ek p.1, p.2)) →
    (mget x l = none ∧ findAt x (l.map (·.1)) es i = none) ∨
    ∃ j v0 e, mget x l = some v0 ∧ findAt x (l.map (·.1)) es i = some (i + j, v0) ∧ es[j]? = some e ∧ e.key = ek x ∧
      ∀ (f : MapEntry → MapEntry) v, (∀ e : MapEntry, e.key = ek x → (f e).key = ek x ∧ (f e).val = v) → (es.modify j f).map (fun e => (e.key, e.val)) = (mput x v l).map (fun p => (ek p.1, p.2))
  | [], [], i, _ => .inl ⟨rfl, rfl⟩
  | [], e :: es, i, h => by simp at h
  | p :: l, [], i, h => by simp at h
  | (k, u) :: l, e :: es, i, h => by
    rw [List.map_cons, List.map_cons, List.cons.injEq, Prod.mk.injEq] at h
    obtain ⟨⟨h1, h2⟩, h3⟩ := h
    by_cases hx : x = k
    · subst hx
      refine .inr ⟨0, u, e, by rw [mget, if_pos rfl], ?_, rfl, h1, fun f v hf => ?_⟩
      · rw [List.map_cons, findAt, if_pos rfl, h2]; rfl
      · rw [mput, if_pos rfl]
        show ((f e) :: es).map _ = _
        rw [List.map_cons, List.map_cons, (hf e h1).1, (hf e h1).2, h3]
    · rcases findAt_is x l es (i + 1) h3 with ⟨g1, g2⟩ | ⟨j, v0, e0, g1, g2, g3, g4, g5⟩
      · exact .inl ⟨by rw [mget, if_neg hx, g1], by rw [List.map_cons, findAt, if_neg hx, g2]⟩
      · refine .inr ⟨j + 1, v0, e0, by rw [mget, if_neg hx, g1], ?_, g3, g4, fun f v hf => ?_⟩
        · rw [List.map_cons, findAt, if_neg hx, g2]
          congr 2
          omega
        · rw [mput, if_neg hx]
          show (e :: es.modify j f).map _ = _
          rw [List.map_cons, List.map_cons, g5 f v hf, h1, h2]
end
section
variable {κ : Type} {ek : κ → Value} {W W' : World} {b : Nat} {l : List (κ × Value)}
/-- Block b is a map that holds the list l. -/
def Mp (ek : κ → Value) (W : World) (b : Nat) (l : List (κ × Value)) : Prop := ∃ es clock, W.heap[b]? = some (.map es clock) ∧ es.toList.map (fun e => (e.key, e.val)) = l.map (fun p => (ek p.1, p.2)) ∧ (l.map (·.1)).Nodup ∧ (es.toList.map (·.born)).Nodup ∧ ∀ e ∈ es.toList, e.born < clock
theorem Mp.lt (h : Mp ek W b l) : b < W.heap.size := by
  obtain ⟨es, clock, hb, _⟩ := h
  exact (Array.getElem?_eq_some_iff.1 hb).1
theorem Mp.nodup (h : Mp ek W b l) : (l.map (·.1)).Nodup := by obtain ⟨_, _, _, _, h, _⟩ := h; exact h
theorem Mp.made (W : World) : Mp ek (W.alloc (.map #[] 0)) W.heap.size [] := ⟨#[], 0, heap_alloc_new _ _, rfl, List.nodup_nil, List.nodup_nil, fun e h => by simp at h⟩
theorem Mp.kept {row : Option Nat} (h : Mp ek W b l) (hg : W.grownBy W' row) (hne : some b ≠ row) : Mp ek W' b l := by
  have hlt := h.lt
  obtain ⟨es, clock, hb, h2⟩ := h
  exact ⟨es, clock, (hg.block b hlt hne).trans hb, h2⟩
theorem Mp.below (h : Mp ek W b l) (hb : Below W.heap.size W W') : Mp ek W' b l :=
  h.kept (row := none) ⟨hb.os, hb.tape, hb.output, hb.size, fun i hi _ => hb.block i hi⟩ (by simp)
end
section
variable {κ : Type} [DecidableEq κ] {P : Program} {kt : TypeId} {ek : κ → Value} {W : World} {b : Nat} {l : List (κ × Value)}
theorem Mp.lookup (K : MapK P kt ek) (h : Mp ek W b l) {t vt : TypeId} {z : Value} (ht : P.underlying t = some (.map kt vt)) (hz : (zeroValue vt).run P W = .ok z W) (x : κ) :
    (Instr.lookup t (.map (some b)) (ek x) false).run P W = .ok ((mget x l).getD z) W ∧ (Instr.lookup t (.map (some b)) (ek x) true).run P W = .ok (.tuple #[(mget x l).getD z, .bool (mget x l).isSome]) W := by
  obtain ⟨es, clock, hb, hm, _⟩ := h
  have hk : es.toList.map (·.key) = (l.map (·.1)).map ek := by
    have := congrArg (List.map Prod.fst) hm
    simpa [List.map_map, Function.comp_def] using this
  have hf := K.find x es.toList (l.map (·.1)) W hk
  rcases findAt_is x l es.toList 0 hm with ⟨g1, g2⟩ | ⟨j, v0, e0, g1, g2, _⟩
  · rw [g2] at hf
    constructor <;> simp [Instr.lookup, run_underlying ht, MapKept.run_getObj_map hb, K.chk, hf, hz, g1, Result.andThen]
  · rw [g2] at hf
    constructor <;> simp [Instr.lookup, run_underlying ht, MapKept.run_getObj_map hb, K.chk, hf, g1, Result.andThen]
theorem Mp.update (K : MapK P kt ek) (h : Mp ek W b l) {t vt : TypeId} (ht : P.underlying t = some (.map kt vt)) (x : κ) (v : Value) :
    ∃ W', (Instr.mapUpdate t (.map (some b)) (ek x) v).run P W = .ok () W' ∧ Mp ek W' b (mput x v l) ∧ W.grownBy W' (some b) ∧ W'.heap.size = W.heap.size := by
  have hlt := h.lt
  have hnd := mput_nodup (x := x) (v := v) h.nodup
  obtain ⟨es, clock, hb, hm, hn, hbn, hbc⟩ := h
  have hk : es.toList.map (·.key) = (l.map (·.1)).map ek := by
    have := congrArg (List.map Prod.fst) hm
    simpa [List.map_map, Function.comp_def] using this
  have hf := K.find x es.toList (l.map (·.1)) W hk
  have hgr : ∀ o : Obj, W.grownBy { W with heap := W.heap.setIfInBounds b o } (some b) := fun o => ⟨rfl, rfl, rfl, by simp, fun k _ hne => by
    show (W.heap.setIfInBounds b o)[k]? = _
    rw [Array.getElem?_setIfInBounds, if_neg (fun e => hne (by rw [e]))]⟩
  have hat : ∀ o : Obj, ({ W with heap := W.heap.setIfInBounds b o } : World).heap[b]? = some o := fun o => by
    show (W.heap.setIfInBounds b o)[b]? = _
    rw [Array.getElem?_setIfInBounds, if_pos rfl, if_pos hlt]
  rcases findAt_is x l es.toList 0 hm with ⟨g1, g2⟩ | ⟨j, v0, e0, g1, g2, g3, g4, g5⟩
  · rw [g2] at hf
    refine ⟨{ W with heap := W.heap.setIfInBounds b (.map (es.push ⟨ek x, v, clock⟩) (clock + 1)) }, ?_, ⟨_, _, hat _, ?_, hnd, ?_, ?_⟩, hgr _, by simp⟩
    · simp [Instr.mapUpdate, run_underlying ht, MapKept.run_getObj_map hb, K.chk, hf, MapKept.run_setObj_map _ hb, Result.andThen]
    · rw [mput_none v g1, Array.toList_push, List.map_append, List.map_append, hm]; rfl
    · rw [Array.toList_push, List.map_append, List.nodup_append]
      refine ⟨hbn, by simp, fun a ha c hc => ?_⟩
      simp only [List.map_cons, List.map_nil, List.mem_singleton] at hc
      subst hc
      obtain ⟨e, he, rfl⟩ := List.mem_map.1 ha
      exact Nat.ne_of_lt (hbc e he)
    · intro e he
      rw [Array.toList_push, List.mem_append, List.mem_singleton] at he
      rcases he with he | rfl
      · have := hbc e he; omega
      · exact Nat.lt_succ_self _
  · rw [g2, Nat.zero_add] at hf
    have hej : es[j]? = some e0 := by rw [← Array.getElem?_toList]; exact g3
    refine ⟨{ W with heap := W.heap.setIfInBounds b (.map (es.modify j fun e => { e with key := ek x, val := v }) clock) }, ?_, ⟨_, _, hat _, ?_, hnd, ?_, ?_⟩, hgr _, by simp⟩
    · simp [Instr.mapUpdate, run_underlying ht, MapKept.run_getObj_map hb, K.chk, hf, MapKept.run_setObj_map _ hb, Result.andThen, hej, Instr.keyThatStays, g4, K.bits]
    · rw [Array.toList_modify]
      exact g5 (fun e => { e with key := ek x, val := v }) v (fun e _ => ⟨rfl, rfl⟩)
    · rw [Array.toList_modify]
      have : (es.toList.modify j fun e => { e with key := ek x, val := v }).map (·.born) = es.toList.map (·.born) := by
        apply List.ext_getElem?
        intro q
        simp only [List.getElem?_map, List.getElem?_modify]
        cases es.toList[q]? with
        | none => rfl
        | some e => by_cases e' : j = q <;> simp [e']
      rw [this]
      exact hbn
    · intro e he
      rw [Array.toList_modify] at he
      obtain ⟨q, hq⟩ := List.mem_iff_getElem?.1 he
      rw [List.getElem?_modify] at hq
      cases hq2 : es.toList[q]? with
      | none => rw [hq2] at hq; cases hq
      | some e1 =>
        rw [hq2] at hq
        have h1 := hbc e1 (List.mem_iff_getElem?.2 ⟨q, hq2⟩)
        by_cases e' : j = q
        · simp [e'] at hq; rw [← hq]; exact h1
        · simp [e'] at hq; rw [← hq]; exact h1
end
section
variable {κ : Type}
/-- A range over the map in block b under way, its iterator in block r: what is left. -/
def Rg (ek : κ → Value) (W : World) (b r : Nat) (l left : List (κ × Value)) : Prop := ∃ es clock since seen c0, W.heap[b]? = some (.map es clock) ∧ es.toList.map (fun e => (e.key, e.val)) = l.map (fun p => (ek p.1, p.2)) ∧
  (l.map (·.1)).Nodup ∧ (es.toList.map (·.born)).Nodup ∧ (∀ e ∈ es.toList, e.born < clock) ∧ W.heap[r]? = some (.mapIter (some b) since seen c0) ∧ (∀ x ∈ es.toList, x.born < since) ∧ since ≤ c0 ∧ since ≤ clock ∧
  (leftOf es seen).toList.map (fun e => (e.key, e.val)) = left.map (fun p => (ek p.1, p.2)) ∧ (left.map (·.1)).Nodup ∧ (∀ p ∈ left, p ∈ l)
theorem leftOf_push (es : Array MapEntry) (seen : Array Nat) (n : Nat) : (leftOf es (seen.push n)).toList = (leftOf es seen).toList.filter fun y => !(y.born == n) := by
  unfold leftOf
  rw [Array.toList_filter, Array.toList_filter, List.filter_filter]
  congr 1
  funext y
  simp only [Array.contains_push, Bool.not_or]
  rw [Bool.and_comm]
variable {P : Program} {kt : TypeId} {ek : κ → Value} {W W' : World} {b r : Nat} {l left : List (κ × Value)}
theorem Rg.mp (h : Rg ek W b r l left) : Mp ek W b l := by
  obtain ⟨es, clock, _, _, _, hb, hm, hn, hbn, hbc, _⟩ := h
  exact ⟨es, clock, hb, hm, hn, hbn, hbc⟩
theorem Rg.ltr (h : Rg ek W b r l left) : r < W.heap.size := by
  obtain ⟨es, clock, _, _, _, _, _, _, _, _, hr, _⟩ := h
  exact (Array.getElem?_eq_some_iff.1 hr).1
theorem Rg.nodup (h : Rg ek W b r l left) : (left.map (·.1)).Nodup := by obtain ⟨_, _, _, _, _, _, _, _, _, _, _, _, _, _, _, h, _⟩ := h; exact h
theorem Rg.sub (h : Rg ek W b r l left) : ∀ p ∈ left, p ∈ l := by obtain ⟨_, _, _, _, _, _, _, _, _, _, _, _, _, _, _, _, h⟩ := h; exact h
theorem Rg.kept {row : Option Nat} (h : Rg ek W b r l left) (hg : W.grownBy W' row) (hne : some b ≠ row) (hne2 : some r ≠ row) : Rg ek W' b r l left := by
  have hlt := h.mp.lt
  have hltr := h.ltr
  obtain ⟨es, clock, since, seen, c0, hb, h2, h3, h4, h5, hr, h6⟩ := h
  exact ⟨es, clock, since, seen, c0, (hg.block b hlt hne).trans hb, h2, h3, h4, h5, (hg.block r hltr hne2).trans hr, h6⟩
theorem Rg.below (h : Rg ek W b r l left) (hb : Below W.heap.size W W') : Rg ek W' b r l left :=
  h.kept (row := none) ⟨hb.os, hb.tape, hb.output, hb.size, fun i hi _ => hb.block i hi⟩ (by simp) (by simp)
theorem Rg.left_eq (h : Rg ek W b r l left) : W.rangeLeft b r = left.length := by
  obtain ⟨es, clock, since, seen, c0, hb, _, _, _, _, hr, _, _, _, hl, _⟩ := h
  simp only [World.rangeLeft, hb, hr]
  have := congrArg List.length hl
  simpa using this
theorem Mp.range (h : Mp ek W b l) {t vt : TypeId} (ht : P.underlying t = some (.map kt vt)) :
    ∃ W', (Instr.range t (.map (some b))).run P W = .ok (.pointer (some ⟨W.heap.size, 0, none⟩)) W' ∧ Rg ek W' b W.heap.size l l ∧ W.grownBy W' none ∧ W'.heap.size = W.heap.size + 1 := by
  have hlt := h.lt
  obtain ⟨es, clock, hb, hm, hn, hbn, hbc⟩ := h
  exact ⟨_, run_range_map W t kt vt b es clock ht hb, ⟨es, clock, clock, #[], clock, ((MapKept.heap_alloc W _).2 b hlt).trans hb, hm, hn, hbn, hbc, (MapKept.heap_alloc W _).1, hbc, Nat.le_refl _, Nat.le_refl _, by rw [show leftOf es #[] = es by unfold leftOf; rw [Array.filter_eq_self]; simp]; exact hm, hn, fun _ hp => hp⟩, World.grownBy_alloc W _ none, by simp⟩
theorem setBlock_heap (w : World) (r : Nat) (o : Obj) (h : r < w.heap.size) : (ChangeMaps.setBlock w r o).heap[r]? = some o := by
  simp [ChangeMaps.setBlock, h]
theorem setBlock_other (w : World) (r k : Nat) (o : Obj) (h : k ≠ r) : (ChangeMaps.setBlock w r o).heap[k]? = w.heap[k]? := by
  simp [ChangeMaps.setBlock, Ne.symm h]
end
section
variable {κ : Type} [DecidableEq κ]
theorem strike {ek : κ → Value} : ∀ (A : List MapEntry) (B : List (κ × Value)), A.map (fun e => (e.key, e.val)) = B.map (fun p => (ek p.1, p.2)) → (A.map (·.born)).Nodup → (B.map (·.1)).Nodup → ∀ e ∈ A,
    ∃ x v, (x, v) ∈ B ∧ e.key = ek x ∧ e.val = v ∧ (A.filter fun y => !(y.born == e.born)).map (fun e => (e.key, e.val)) = (B.filter fun p => !decide (p.1 = x)).map (fun p => (ek p.1, p.2))
  | [], _, _, _, _, e, he => by cases he
  | a :: A, [], h, _, _, _, _ => by simp at h
  | a :: A, (k, u) :: B, h, hn, hm, e, he => by
    rw [List.map_cons, List.map_cons, List.cons.injEq, Prod.mk.injEq] at h
    obtain ⟨⟨h1, h2⟩, h3⟩ := h
    rw [List.map_cons, List.nodup_cons] at hn hm
    by_cases hae : e = a
    · subst hae
      refine ⟨k, u, by simp, h1, h2, ?_⟩
      have f1 : A.filter (fun y => !(y.born == e.born)) = A := by
        rw [List.filter_eq_self]
        intro y hy
        have : y.born ≠ e.born := fun q => hn.1 (by rw [← q]; exact List.mem_map.2 ⟨y, hy, rfl⟩)
        simpa using this
      have f2 : B.filter (fun p => !decide (p.1 = k)) = B := by
        rw [List.filter_eq_self]
        intro p hp
        have : p.1 ≠ k := fun q => hm.1 (by rw [← q]; exact List.mem_map.2 ⟨p, hp, rfl⟩)
        simpa using this
      rw [List.filter_cons_of_neg (by simp), List.filter_cons_of_neg (by simp), f1, f2, h3]
    · have heA : e ∈ A := by
        rcases List.mem_cons.1 he with q | q
        · exact absurd q hae
        · exact q
      obtain ⟨x, v, hxv, g1, g2, g3⟩ := strike A B h3 hn.2 hm.2 e heA
      refine ⟨x, v, by simp [hxv], g1, g2, ?_⟩
      have q1 : a.born ≠ e.born := fun q => hn.1 (by rw [q]; exact List.mem_map.2 ⟨e, heA, rfl⟩)
      have q2 : k ≠ x := fun q => hm.1 (by rw [q]; exact List.mem_map.2 ⟨_, hxv, rfl⟩)
      rw [List.filter_cons_of_pos (by simpa using q1), List.filter_cons_of_pos (by simpa using q2), List.map_cons, List.map_cons, g3, h1, h2]
variable {P : Program} {kt : TypeId} {ek : κ → Value} {W W' : World} {b r : Nat} {l left : List (κ × Value)}
/-- The step. -/
theorem Rg.next (h : Rg ek W b r l left) (ty : TypeId) :
    (left = [] ∧ (Instr.next (.pointer (some ⟨r, 0, none⟩)) false ty).run P W = .ok (.tuple #[.bool false]) W) ∨
    ∃ x v W', (x, v) ∈ left ∧ (Instr.next (.pointer (some ⟨r, 0, none⟩)) false ty).run P W = .ok (.tuple #[.bool true, ek x, v]) W' ∧ Rg ek W' b r l (left.filter fun p => !decide (p.1 = x)) ∧ W.grownBy W' (some r) ∧ W'.heap.size = W.heap.size ∧
      (Instr.entry (.pointer (some ⟨r, 0, none⟩))).run P W' = .ok (.tuple #[ek x, v]) W' := by
  have hltb := h.mp.lt
  have hltr := h.ltr
  obtain ⟨es, clock, since, seen, c0, hb, hm, hn, hbn, hbc, hr, hold, hsc, hscl, hl, hln, hsub⟩ := h
  have hne : b ≠ r := fun e => by rw [e, hr] at hb; cases hb
  rcases run_next_at (P := P) W ty r b since c0 seen es clock hr hb hold hsc with ⟨h0, hrun⟩ | ⟨e, he, w1, hw1, hrun⟩
  · refine .inl ⟨?_, hrun⟩
    have := congrArg List.length hl
    simp only [List.length_map, Array.length_toList, h0] at this
    exact List.length_eq_zero_iff.1 this.symm
  · have hsubl : (leftOf es seen).toList.Sublist es.toList := by unfold leftOf; rw [Array.toList_filter]; exact List.filter_sublist
    have hnl : ((leftOf es seen).toList.map (·.born)).Nodup := hbn.sublist (hsubl.map _)
    obtain ⟨x, v, hxv, k1, k2, k3⟩ := strike _ _ hl hnl hln e he
    rw [k1, k2] at hrun
    have hw1h : w1.heap = W.heap := by rcases hw1 with rfl | rfl <;> rfl
    have hgr : W.grownBy (ChangeMaps.setBlock w1 r (.mapIter (some b) since (seen.push e.born) clock)) (some r) := by
      refine ⟨?_, ?_, ?_, ?_, fun k hk hne' => ?_⟩
      · rcases hw1 with rfl | rfl <;> rfl
      · rcases hw1 with rfl | rfl <;> rfl
      · rcases hw1 with rfl | rfl <;> rfl
      · simp [ChangeMaps.setBlock, hw1h]
      · rw [setBlock_other _ _ _ _ (fun e => hne' (by rw [e])), hw1h]
    have hrr : (ChangeMaps.setBlock w1 r (.mapIter (some b) since (seen.push e.born) clock)).heap[r]? = some (.mapIter (some b) since (seen.push e.born) clock) := setBlock_heap _ _ _ (by rw [hw1h]; exact hltr)
    have hbb : (ChangeMaps.setBlock w1 r (.mapIter (some b) since (seen.push e.born) clock)).heap[b]? = some (.map es clock) := by rw [setBlock_other _ _ _ _ hne, hw1h]; exact hb
    refine .inr ⟨x, v, _, hxv, hrun, ⟨es, clock, since, seen.push e.born, clock, hbb, hm, hn, hbn, hbc, hrr, hold, hscl, hscl, ?_, ?_, fun p hp => hsub p (List.mem_filter.1 hp).1⟩, hgr, by simp [ChangeMaps.setBlock, hw1h], ?_⟩
    · rw [leftOf_push]; exact k3
    · exact hln.sublist (List.filter_sublist.map _)
    · have := run_entry_at (P := P) _ r b since seen es clock e hrr hbb (hsubl.subset he) hbn
      rw [k1, k2] at this
      exact this
variable {ops : Array Oper} {rest : List Oper} {o : Oper} {a : Act} {Q : Exit → Act → World → Prop}
theorem wpList_lookup_mp (w : World) (hg : o.guard = none) (m x : Operand) (t : TypeId) (hop : o.op = Op.lookup t m x false) (vt : TypeId) (K : MapK P kt ek) (ht : P.underlying t = some (.map kt vt)) {z : Value} (hz : (zeroValue vt).run P w = .ok z w)
    (hm : a.eval m = .map (some b)) (hown : Mp ek w b l) (y : κ) (hx : a.eval x = ek y) (hK : wpList P ops Q rest (a.put o.dst ((mget y l).getD z)) w) : wpList P ops Q (o :: rest) a w := by
  refine wpList_plain hg fun K' hK' => ?_
  have hrun := (hown.lookup K ht hz y).1
  unfold Oper.wp
  simp [execOp, hop, hm, hx, hrun, Result.andThen]
  exact hK' _ _ hK
theorem wpList_lookupok_mp (w : World) (hg : o.guard = none) (m x : Operand) (t : TypeId) (hop : o.op = Op.lookup t m x true) (vt : TypeId) (K : MapK P kt ek) (ht : P.underlying t = some (.map kt vt)) {z : Value} (hz : (zeroValue vt).run P w = .ok z w)
    (hm : a.eval m = .map (some b)) (hown : Mp ek w b l) (y : κ) (hx : a.eval x = ek y) (hK : wpList P ops Q rest (a.put o.dst (.tuple #[(mget y l).getD z, .bool (mget y l).isSome])) w) : wpList P ops Q (o :: rest) a w := by
  refine wpList_plain hg fun K' hK' => ?_
  have hrun := (hown.lookup K ht hz y).2
  unfold Oper.wp
  simp [execOp, hop, hm, hx, hrun, Result.andThen]
  exact hK' _ _ hK
theorem wpList_update_mp (w : World) (hg : o.guard = none) (m x v : Operand) (t : TypeId) (hop : o.op = Op.mapUpdate t m x v) (vt : TypeId) (K : MapK P kt ek) (ht : P.underlying t = some (.map kt vt))
    (hm : a.eval m = .map (some b)) (hown : Mp ek w b l) (y : κ) (u : Value) (hx : a.eval x = ek y) (hv : a.eval v = u) (hK : ∀ w', Mp ek w' b (mput y u l) → w.grownBy w' (some b) → w'.heap.size = w.heap.size → wpList P ops Q rest (a.put o.dst undef) w') : wpList P ops Q (o :: rest) a w := by
  refine wpList_plain hg fun K' hK' => ?_
  obtain ⟨w', hrun, r1, r2, r3⟩ := hown.update K ht y u
  unfold Oper.wp
  simp [execOp, hop, hm, hx, hv, hrun, Result.andThen]
  exact hK' _ _ (hK w' r1 r2 r3)
theorem wpList_next_mp (w : World) (hg : o.guard = none) (it : Operand) (hop : o.op = Op.next it false) (hit : a.eval it = .pointer (some ⟨r, 0, none⟩)) (h : Rg ek w b r l left)
    (hDone : left = [] → wpList P ops Q rest (a.put o.dst (.tuple #[.bool false])) w)
    (hMore : ∀ x v w', (x, v) ∈ left → Rg ek w' b r l (left.filter fun p => !decide (p.1 = x)) → w.grownBy w' (some r) → w'.heap.size = w.heap.size → (Instr.entry (.pointer (some ⟨r, 0, none⟩))).run P w' = .ok (.tuple #[ek x, v]) w' → wpList P ops Q rest (a.put o.dst (.tuple #[.bool true, ek x, v])) w') : wpList P ops Q (o :: rest) a w := by
  refine wpList_plain hg fun K' hK' => ?_
  unfold Oper.wp
  rcases h.next (P := P) o.type with ⟨h0, hrun⟩ | ⟨x, v, w', h1, hrun, h2, h3, h4, h5⟩
  · simp [execOp, hop, hit, hrun, Result.andThen]
    exact hK' _ _ (hDone h0)
  · simp [execOp, hop, hit, hrun, Result.andThen]
    exact hK' _ _ (hMore x v w' h1 h2 h3 h4 h5)
end
section
variable {κ : Type} {P : Program} {ek : κ → Value} {W : World} {b : Nat} {l : List (κ × Value)}
variable {ops : Array Oper} {rest : List Oper} {o : Oper} {a : Act} {Q : Exit → Act → World → Prop}
theorem wpList_range_mp (w : World) (hg : o.guard = none) (m : Operand) (t : TypeId) (hop : o.op = Op.range t m) (kt vt : TypeId) (ht : P.underlying t = some (.map kt vt)) (hm : a.eval m = .map (some b)) (hown : Mp ek w b l)
    (hK : ∀ w', Rg ek w' b w.heap.size l l → w.grownBy w' none → w'.heap.size = w.heap.size + 1 → wpList P ops Q rest (a.put o.dst (.pointer (some ⟨w.heap.size, 0, none⟩))) w') : wpList P ops Q (o :: rest) a w := by
  refine wpList_plain hg fun K' hK' => ?_
  obtain ⟨w', hrun, r1, r2, r3⟩ := hown.range (P := P) ht
  unfold Oper.wp
  simp [execOp, hop, hm, hrun, Result.andThen]
  exact hK' _ _ (hK w' r1 r2 r3)
theorem run_len_mp (h : Mp ek W b l) (t ty kt vt : TypeId) (ht : P.underlying t = some (.map kt vt)) : (Builtin.len_ #[t] ty #[.map (some b)]).run P W = .ok (.int .i64 l.length) W := by
  obtain ⟨es, clock, hb, hm, _⟩ := h
  have := congrArg List.length hm
  simp only [List.length_map, Array.length_toList] at this
  simp [Builtin.len_, run_underlying ht, MapKept.run_getObj_map hb, Result.andThen, this]
  rfl
end
end Go.Proofs.YtkddeliifadcoaaDoor
