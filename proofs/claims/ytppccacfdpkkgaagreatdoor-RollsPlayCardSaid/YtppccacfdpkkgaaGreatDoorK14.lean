/-
  MAPS IN MEMORY, read as lists of keys and values, whatever the key's type: look-up, store, len, a range over all entries in whatever order. No program in sight. MAPS IN MEMORY: a range over all entries; the laws at the operations, for the walk. No program in sight. MAPS IN MEMORY: delete. No program in sight. CONTRACTS: recording: within, of, does. CONTRACTS: recording.Check, given what it says of each event. CONTRACTS: event, of a key and of a stop that are there.
-/
import Derived.Maps.RangeWalk
import Derived.Maps.OwnOps
import Derived.WalkKit
import Derived.WalkSpells
import Derived.RangeFuncBox
import Derived.WalkSmall
import Derived.Lib.Hide
import Derived.Test.YtppccacfdpkkgaaGreatDoorK10
import Derived.Deep.RegionWith
namespace Go.Proofs.YtppccacfdpkkgaaGreatDoor
open Go.RowKit
section
variable {κ : Type} [DecidableEq κ]
def findAt (x : κ) : List κ → List MapEntry → Nat → Option (Nat × Value)
  | k :: l, e :: es, i => if x = k then some (i, e.val) else findAt x l es (i + 1)
  | _, _, _ => none
/-- What the walks need of a key's type. -/
structure MapK (P : Program) (kt : TypeId) (ek : κ → Value) : Prop where
  find : ∀ (x : κ) (es : List MapEntry) (l : List κ) (w : World), es.map (·.key) = l.map ek → (Instr.findKey kt (ek x) es).run P w = .ok (findAt x l es 0) w
  chk : ∀ (b : Bool) (x : κ) (w : World), (Instr.checkKey b 10000 kt (ek x)).run P w = .ok () w
  bits : ∀ x, Instr.sameBits 10000 (ek x) (ek x) = true
def mget (x : κ) : List (κ × Value) → Option Value
  | [] => none
  | (k, v) :: l => if x = k then some v else mget x l
def mput (x : κ) (v : Value) : List (κ × Value) → List (κ × Value)
  | [] => [(x, v)]
  | (k, u) :: l => if x = k then (x, v) :: l else (k, u) :: mput x v l
theorem mget_put (x y : κ) (v : Value) : ∀ l : List (κ × Value), mget y (mput x v l) = if y = x then some v else mget y l
  | [] => by simp only [mput, mget]
  | (k, u) :: l => by
    rw [mput]
    by_cases h : x = k
    · rw [if_pos h, mget, mget, h]
      by_cases e : y = k <;> simp [e]
    · rw [if_neg h, mget, mget, mget_put x y v l]
      by_cases e : y = k
      · subst e
        rw [if_pos rfl, if_neg (fun e => h e.symm), if_pos rfl]
      · rw [if_neg e, if_neg e]
theorem mput_none {x : κ} (v : Value) : ∀ {l : List (κ × Value)}, mget x l = none → mput x v l = l ++ [(x, v)]
  | [], _ => rfl
  | (k, u) :: l, h => by
    rw [mget] at h
    by_cases e : x = k
    · rw [if_pos e] at h; cases h
    · rw [if_neg e] at h
      rw [mput, if_neg e, mput_none v h]; rfl
theorem mget_mem {x : κ} {v : Value} : ∀ {l : List (κ × Value)}, mget x l = some v → (x, v) ∈ l
  | [], h => by cases h
  | (k, u) :: l, h => by
    rw [mget] at h
    by_cases e : x = k
    · rw [if_pos e] at h; cases h; rw [e]; simp
    · rw [if_neg e] at h
      exact List.mem_cons_of_mem _ (mget_mem h)
theorem mget_no {x : κ} : ∀ {l : List (κ × Value)}, mget x l = none ↔ x ∉ l.map (·.1)
  | [] => by simp [mget]
  | (k, u) :: l => by
    rw [mget]
    by_cases e : x = k
    · simp [e]
    · rw [if_neg e, mget_no, List.map_cons, List.mem_cons, not_or]
      exact ⟨fun h => ⟨e, h⟩, fun h => h.2⟩
theorem mget_of_mem {x : κ} {v : Value} : ∀ {l : List (κ × Value)}, (l.map (·.1)).Nodup → (x, v) ∈ l → mget x l = some v
  | [], _, h => by cases h
  | (k, u) :: l, hn, h => by
    rw [List.map_cons, List.nodup_cons] at hn
    rw [mget]
    rcases List.mem_cons.1 h with e | h
    · cases e; rw [if_pos rfl]
    · rw [if_neg (fun (e : x = k) => hn.1 (by rw [← e]; exact List.mem_map.2 ⟨_, h, rfl⟩)), mget_of_mem hn.2 h]
theorem mput_keys {x : κ} {v : Value} : ∀ {l : List (κ × Value)}, mget x l ≠ none → (mput x v l).map (·.1) = l.map (·.1)
  | [], h => absurd rfl h
  | (k, u) :: l, h => by
    rw [mput]
    rw [mget] at h
    by_cases e : x = k
    · rw [if_pos e]; simp [e]
    · rw [if_neg e] at h
      rw [if_neg e, List.map_cons, mput_keys h, List.map_cons]
theorem mput_nodup {x : κ} {v : Value} {l : List (κ × Value)} (h : (l.map (·.1)).Nodup) : ((mput x v l).map (·.1)).Nodup := by
  cases hg : mget x l with
  | none =>
    rw [mput_none v hg, List.map_append, List.nodup_append]
    refine ⟨h, by simp, fun a ha b hb => ?_⟩
    simp only [List.map_cons, List.map_nil, List.mem_singleton] at hb
    subst hb
    exact fun e => mget_no.1 hg (e ▸ ha)
  | some u => rw [mput_keys (by rw [hg]; simp)]; exact h
theorem mput_len {x : κ} {v : Value} : ∀ {l : List (κ × Value)}, (mput x v l).length ≤ l.length + 1
  | [] => by simp [mput]
  | (k, u) :: l => by
    rw [mput]
    split
    · simp
    · simp only [List.length_cons]; have := mput_len (x := x) (v := v) (l := l); omega
/-- What findAt says, and what a change at that place makes. -/
theorem findAt_is {ek : κ → Value} (x : κ) : ∀ (l : List (κ × Value)) (es : List MapEntry) (i : Nat), es.map (fun e => (e.key, e.val)) = l.map (fun p => (ek p.1, p.2)) →
    (mget x l = none ∧ findAt x (l.map (·.1)) es i = none) ∨
    ∃ j v0 e, mget x l = some v0 ∧ findAt x (l.map (·.1)) es i = some (i + j, v0) ∧ es[j]? = some e ∧ e.key = ek x ∧
      ∀ (f : MapEntry → MapEntry) v, (∀ e : MapEntry, e.key = ek x → (f e).key = ek x ∧ (f e).val = v) → (es.modify j f).map (fun e => (e.key, e.val)) = (mput x v l).map (fun p => (ek p.1, p.2))
  | [], [], i, _ => .inl ⟨rfl, rfl⟩
  | [], e :: es, i, h => by simp at h
  | p :: l, [], i, h => by simp at h
  | (k, u) :: l, e :: es, i, h => by
    rw [List.map_cons, List.map_cons, List.cons.injEq, Prod.mk.injEq] at h
    obtain ⟨⟨h1, h2⟩, h3⟩ := h
    by_cases hx : x = k
    · subst hx
      refine .inr ⟨0, u, e, by rw [mget, if_pos rfl], ?_, rfl, h1, fun f v hf => ?_⟩
      · rw [List.map_cons, findAt, if_pos rfl, h2]; rfl
      · rw [mput, if_pos rfl]
        show ((f e) :: es).map _ = _
        rw [List.map_cons, List.map_cons, (hf e h1).1, (hf e h1).2, h3]
    · rcases findAt_is x l es (i + 1) h3 with ⟨g1, g2⟩ | ⟨j, v0, e0, g1, g2, g3, g4, g5⟩
      · exact .inl ⟨by rw [mget, if_neg hx, g1], by rw [List.map_cons, findAt, if_neg hx, g2]⟩
      · refine .inr ⟨j + 1, v0, e0, by rw [mget, if_neg hx, g1], ?_, g3, g4, fun f v hf => ?_⟩
        · rw [List.map_cons, findAt, if_neg hx, g2]
          congr 2
          omega
        · rw [mput, if_neg hx]
          show (e :: es.modify j f).map _ = _
          rw [List.map_cons, List.map_cons, g5 f v hf, h1, h2]
end
section
variable {κ : Type} {ek : κ → Value} {W W' : World} {b : Nat} {l : List (κ × Value)}
/-- Block b is a map that holds the list l. -/
def Mp (ek : κ → Value) (W : World) (b : Nat) (l : List (κ × Value)) : Prop := ∃ es clock, W.heap[b]? = some (.map es clock) ∧ es.toList.map (fun e => (e.key, e.val)) = l.map (fun p => (ek p.1, p.2)) ∧ (l.map (·.1)).Nodup ∧ (es.toList.map (·.born)).Nodup ∧ ∀ e ∈ es.toList, e.born < clock
theorem Mp.lt (h : Mp ek W b l) : b < W.heap.size := by
  obtain ⟨es, clock, hb, _⟩ := h
  exact (Array.getElem?_eq_some_iff.1 hb).1
theorem Mp.nodup (h : Mp ek W b l) : (l.map (·.1)).Nodup := by obtain ⟨_, _, _, _, h, _⟩ := h; exact h
theorem Mp.made (W : World) : Mp ek (W.alloc (.map #[] 0)) W.heap.size [] := ⟨#[], 0, heap_alloc_new _ _, rfl, List.nodup_nil, List.nodup_nil, fun e h => by simp at h⟩
theorem Mp.kept {row : Option Nat} (h : Mp ek W b l) (hg : W.grownBy W' row) (hne : some b ≠ row) : Mp ek W' b l := by
  have hlt := h.lt
  obtain ⟨es, clock, hb, h2⟩ := h
  exact ⟨es, clock, (hg.block b hlt hne).trans hb, h2⟩
theorem Mp.below (h : Mp ek W b l) (hb : Below W.heap.size W W') : Mp ek W' b l :=
  h.kept (row := none) ⟨hb.os, hb.tape, hb.output, hb.size, fun i hi _ => hb.block i hi⟩ (by simp)
end
section
variable {κ : Type} [DecidableEq κ] {P : Program} {kt : TypeId} {ek : κ → Value} {W : World} {b : Nat} {l : List (κ × Value)}
theorem Mp.lookup (K : MapK P kt ek) (h : Mp ek W b l) {t vt : TypeId} {z : Value} (ht : P.underlying t = some (.map kt vt)) (hz : (zeroValue vt).run P W = .ok z W) (x : κ) :
    (Instr.lookup t (.map (some b)) (ek x) false).run P W = .ok ((mget x l).getD z) W ∧ (Instr.lookup t (.map (some b)) (ek x) true).run P W = .ok (.tuple #[(mget x l).getD z, .bool (mget x l).isSome]) W := by
  obtain ⟨es, clock, hb, hm, _⟩ := h
  have hk : es.toList.map (·.key) = (l.map (·.1)).map ek := by
    have := congrArg (List.map Prod.fst) hm
    simpa [List.map_map, Function.comp_def] using this
  have hf := K.find x es.toList (l.map (·.1)) W hk
  rcases findAt_is x l es.toList 0 hm with ⟨g1, g2⟩ | ⟨j, v0, e0, g1, g2, _⟩
  · rw [g2] at hf
    constructor <;> simp [Instr.lookup, run_underlying ht, MapKept.run_getObj_map hb, K.chk, hf, hz, g1, Result.andThen]
  · rw [g2] at hf
    constructor <;> simp [Instr.lookup, run_underlying ht, MapKept.run_getObj_map hb, K.chk, hf, g1, Result.andThen]
theorem Mp.update (K : MapK P kt ek) (h : Mp ek W b l) {t vt : TypeId} (ht : P.underlying t = some (.map kt vt)) (x : κ) (v : Value) :
    ∃ W', (Instr.mapUpdate t (.map (some b)) (ek x) v).run P W = .ok () W' ∧ Mp ek W' b (mput x v l) ∧ W.grownBy W' (some b) ∧ W'.heap.size = W.heap.size := by
  have hlt := h.lt
  have hnd := mput_nodup (x := x) (v := v) h.nodup
  obtain ⟨es, clock, hb, hm, hn, hbn, hbc⟩ := h
  have hk : es.toList.map (·.key) = (l.map (·.1)).map ek := by
    have := congrArg (List.map Prod.fst) hm
    simpa [List.map_map, Function.comp_def] using this
  have hf := K.find x es.toList (l.map (·.1)) W hk
  have hgr : ∀ o : Obj, W.grownBy { W with heap := W.heap.setIfInBounds b o } (some b) := fun o => ⟨rfl, rfl, rfl, by simp, fun k _ hne => by
    show (W.heap.setIfInBounds b o)[k]? = _
    rw [Array.getElem?_setIfInBounds, if_neg (fun e => hne (by rw [e]))]⟩
  have hat : ∀ o : Obj, ({ W with heap := W.heap.setIfInBounds b o } : World).heap[b]? = some o := fun o => by
    show (W.heap.setIfInBounds b o)[b]? = _
    rw [Array.getElem?_setIfInBounds, if_pos rfl, if_pos hlt]
  rcases findAt_is x l es.toList 0 hm with ⟨g1, g2⟩ | ⟨j, v0, e0, g1, g2, g3, g4, g5⟩
  · rw [g2] at hf
    refine ⟨{ W with heap := W.heap.setIfInBounds b (.map (es.push ⟨ek x, v, clock⟩) (clock + 1)) }, ?_, ⟨_, _, hat _, ?_, hnd, ?_, ?_⟩, hgr _, by simp⟩
    · simp [Instr.mapUpdate, run_underlying ht, MapKept.run_getObj_map hb, K.chk, hf, MapKept.run_setObj_map _ hb, Result.andThen]
    · rw [mput_none v g1, Array.toList_push, List.map_append, List.map_append, hm]; rfl
    · rw [Array.toList_push, List.map_append, List.nodup_append]
      refine ⟨hbn, by simp, fun a ha c hc => ?_⟩
      simp only [List.map_cons, List.map_nil, List.mem_singleton] at hc
      subst hc
      obtain ⟨e, he, rfl⟩ := List.mem_map.1 ha
      exact Nat.ne_of_lt (hbc e he)
    · intro e he
      rw [Array.toList_push, List.mem_append, List.mem_singleton] at he
      rcases he with he | rfl
      · have := hbc e he; omega
      · exact Nat.lt_succ_self _
  · rw [g2, Nat.zero_add] at hf
    have hej : es[j]? = some e0 := by rw [← Array.getElem?_toList]; exact g3
    refine ⟨{ W with heap := W.heap.setIfInBounds b (.map (es.modify j fun e => { e with key := ek x, val := v }) clock) }, ?_, ⟨_, _, hat _, ?_, hnd, ?_, ?_⟩, hgr _, by simp⟩
    · simp [Instr.mapUpdate, run_underlying ht, MapKept.run_getObj_map hb, K.chk, hf, MapKept.run_setObj_map _ hb, Result.andThen, hej, Instr.keyThatStays, g4, K.bits]
    · rw [Array.toList_modify]
      exact g5 (fun e => { e with key := ek x, val := v }) v (fun e _ => ⟨rfl, rfl⟩)
    · rw [Array.toList_modify]
      have : (es.toList.modify j fun e => { e with key := ek x, val := v }).map (·.born) = es.toList.map (·.born) := by
        apply List.ext_getElem?
        intro q
        simp only [List.getElem?_map, List.getElem?_modify]
        cases es.toList[q]? with
        | none => rfl
        | some e => by_cases e' : j = q <;> simp [e']
      rw [this]
      exact hbn
    · intro e he
      rw [Array.toList_modify] at he
      obtain ⟨q, hq⟩ := List.mem_iff_getElem?.1 he
      rw [List.getElem?_modify] at hq
      cases hq2 : es.toList[q]? with
      | none => rw [hq2] at hq; cases hq
      | some e1 =>
        rw [hq2] at hq
        have h1 := hbc e1 (List.mem_iff_getElem?.2 ⟨q, hq2⟩)
        by_cases e' : j = q
        · simp [e'] at hq; rw [← hq]; exact h1
        · simp [e'] at hq; rw [← hq]; exact h1
end
section
variable {κ : Type}
/-- A range over the map in block b under way, its iterator in block r: what is left. -/
def Rg (ek : κ → Value) (W : World) (b r : Nat) (l left : List (κ × Value)) : Prop := ∃ es clock since seen c0, W.heap[b]? = some (.map es clock) ∧ es.toList.map (fun e => (e.key, e.val)) = l.map (fun p => (ek p.1, p.2)) ∧
  (l.map (·.1)).Nodup ∧ (es.toList.map (·.born)).Nodup ∧ (∀ e ∈ es.toList, e.born < clock) ∧ W.heap[r]? = some (.mapIter (some b) since seen c0) ∧ (∀ x ∈ es.toList, x.born < since) ∧ since ≤ c0 ∧ since ≤ clock ∧
  (leftOf es seen).toList.map (fun e => (e.key, e.val)) = left.map (fun p => (ek p.1, p.2)) ∧ (left.map (·.1)).Nodup ∧ (∀ p ∈ left, p ∈ l)
theorem leftOf_push (es : Array MapEntry) (seen : Array Nat) (n : Nat) : (leftOf es (seen.push n)).toList = (leftOf es seen).toList.filter fun y => !(y.born == n) := by
  unfold leftOf
  rw [Array.toList_filter, Array.toList_filter, List.filter_filter]
  congr 1
  funext y
  simp only [Array.contains_push, Bool.not_or]
  rw [Bool.and_comm]
variable {P : Program} {kt : TypeId} {ek : κ → Value} {W W' : World} {b r : Nat} {l left : List (κ × Value)}
theorem Rg.mp (h : Rg ek W b r l left) : Mp ek W b l := by
  obtain ⟨es, clock, _, _, _, hb, hm, hn, hbn, hbc, _⟩ := h
  exact ⟨es, clock, hb, hm, hn, hbn, hbc⟩
theorem Rg.ltr (h : Rg ek W b r l left) : r < W.heap.size := by
  obtain ⟨es, clock, _, _, _, _, _, _, _, _, hr, _⟩ := h
  exact (Array.getElem?_eq_some_iff.1 hr).1
theorem Rg.nodup (h : Rg ek W b r l left) : (left.map (·.1)).Nodup := by obtain ⟨_, _, _, _, _, _, _, _, _, _, _, _, _, _, _, h, _⟩ := h; exact h
theorem Rg.sub (h : Rg ek W b r l left) : ∀ p ∈ left, p ∈ l := by obtain ⟨_, _, _, _, _, _, _, _, _, _, _, _, _, _, _, _, h⟩ := h; exact h
theorem Rg.kept {row : Option Nat} (h : Rg ek W b r l left) (hg : W.grownBy W' row) (hne : some b ≠ row) (hne2 : some r ≠ row) : Rg ek W' b r l left := by
  have hlt := h.mp.lt
  have hltr := h.ltr
  obtain ⟨es, clock, since, seen, c0, hb, h2, h3, h4, h5, hr, h6⟩ := h
  exact ⟨es, clock, since, seen, c0, (hg.block b hlt hne).trans hb, h2, h3, h4, h5, (hg.block r hltr hne2).trans hr, h6⟩
theorem Rg.below (h : Rg ek W b r l left) (hb : Below W.heap.size W W') : Rg ek W' b r l left :=
  h.kept (row := none) ⟨hb.os, hb.tape, hb.output, hb.size, fun i hi _ => hb.block i hi⟩ (by simp) (by simp)
theorem Rg.left_eq (h : Rg ek W b r l left) : W.rangeLeft b r = left.length := by
  obtain ⟨es, clock, since, seen, c0, hb, _, _, _, _, hr, _, _, _, hl, _⟩ := h
  simp only [World.rangeLeft, hb, hr]
  have := congrArg List.length hl
  simpa using this
theorem Mp.range (h : Mp ek W b l) {t vt : TypeId} (ht : P.underlying t = some (.map kt vt)) :
    ∃ W', (Instr.range t (.map (some b))).run P W = .ok (.pointer (some ⟨W.heap.size, 0, none⟩)) W' ∧ Rg ek W' b W.heap.size l l ∧ W.grownBy W' none ∧ W'.heap.size = W.heap.size + 1 := by
  have hlt := h.lt
  obtain ⟨es, clock, hb, hm, hn, hbn, hbc⟩ := h
  exact ⟨_, run_range_map W t kt vt b es clock ht hb, ⟨es, clock, clock, #[], clock, ((MapKept.heap_alloc W _).2 b hlt).trans hb, hm, hn, hbn, hbc, (MapKept.heap_alloc W _).1, hbc, Nat.le_refl _, Nat.le_refl _, by rw [show leftOf es #[] = es by unfold leftOf; rw [Array.filter_eq_self]; simp]; exact hm, hn, fun _ hp => hp⟩, World.grownBy_alloc W _ none, by simp⟩
theorem setBlock_heap (w : World) (r : Nat) (o : Obj) (h : r < w.heap.size) : (ChangeMaps.setBlock w r o).heap[r]? = some o := by
  simp [ChangeMaps.setBlock, h]
theorem setBlock_other (w : World) (r k : Nat) (o : Obj) (h : k ≠ r) : (ChangeMaps.setBlock w r o).heap[k]? = w.heap[k]? := by
  simp [ChangeMaps.setBlock, Ne.symm h]
end
section
variable {κ : Type} [DecidableEq κ]
theorem strike {ek : κ → Value} : ∀ (A : List MapEntry) (B : List (κ × Value)), A.map (fun e => (e.key, e.val)) = B.map (fun p => (ek p.1, p.2)) → (A.map (·.born)).Nodup → (B.map (·.1)).Nodup → ∀ e ∈ A,
    ∃ x v, (x, v) ∈ B ∧ e.key = ek x ∧ e.val = v ∧ (A.filter fun y => !(y.born == e.born)).map (fun e => (e.key, e.val)) = (B.filter fun p => !decide (p.1 = x)).map (fun p => (ek p.1, p.2))
  | [], _, _, _, _, e, he => by cases he
  | a :: A, [], h, _, _, _, _ => by simp at h
  | a :: A, (k, u) :: B, h, hn, hm, e, he => by
    rw [List.map_cons, List.map_cons, List.cons.injEq, Prod.mk.injEq] at h
    obtain ⟨⟨h1, h2⟩, h3⟩ := h
    rw [List.map_cons, List.nodup_cons] at hn hm
    by_cases hae : e = a
    · subst hae
      refine ⟨k, u, by simp, h1, h2, ?_⟩
      have f1 : A.filter (fun y => !(y.born == e.born)) = A := by
        rw [List.filter_eq_self]
        intro y hy
        have : y.born ≠ e.born := fun q => hn.1 (by rw [← q]; exact List.mem_map.2 ⟨y, hy, rfl⟩)
        simpa using this
      have f2 : B.filter (fun p => !decide (p.1 = k)) = B := by
        rw [List.filter_eq_self]
        intro p hp
        have : p.1 ≠ k := fun q => hm.1 (by rw [← q]; exact List.mem_map.2 ⟨p, hp, rfl⟩)
        simpa using this
      rw [List.filter_cons_of_neg (by simp), List.filter_cons_of_neg (by simp), f1, f2, h3]
    · have heA : e ∈ A := by
        rcases List.mem_cons.1 he with q | q
        · exact absurd q hae
        · exact q
      obtain ⟨x, v, hxv, g1, g2, g3⟩ := strike A B h3 hn.2 hm.2 e heA
      refine ⟨x, v, by simp [hxv], g1, g2, ?_⟩
      have q1 : a.born ≠ e.born := fun q => hn.1 (by rw [q]; exact List.mem_map.2 ⟨e, heA, rfl⟩)
      have q2 : k ≠ x := fun q => hm.1 (by rw [q]; exact List.mem_map.2 ⟨_, hxv, rfl⟩)
      rw [List.filter_cons_of_pos (by simpa using q1), List.filter_cons_of_pos (by simpa using q2), List.map_cons, List.map_cons, g3, h1, h2]
variable {P : Program} {kt : TypeId} {ek : κ → Value} {W W' : World} {b r : Nat} {l left : List (κ × Value)}
/-- The step. -/
theorem Rg.next (h : Rg ek W b r l left) (ty : TypeId) :
    (left = [] ∧ (Instr.next (.pointer (some ⟨r, 0, none⟩)) false ty).run P W = .ok (.tuple #[.bool false]) W) ∨
    ∃ x v W', (x, v) ∈ left ∧ (Instr.next (.pointer (some ⟨r, 0, none⟩)) false ty).run P W = .ok (.tuple #[.bool true, ek x, v]) W' ∧ Rg ek W' b r l (left.filter fun p => !decide (p.1 = x)) ∧ W.grownBy W' (some r) ∧ W'.heap.size = W.heap.size ∧
      (Instr.entry (.pointer (some ⟨r, 0, none⟩))).run P W' = .ok (.tuple #[ek x, v]) W' := by
  have hltb := h.mp.lt
  have hltr := h.ltr
  obtain ⟨es, clock, since, seen, c0, hb, hm, hn, hbn, hbc, hr, hold, hsc, hscl, hl, hln, hsub⟩ := h
  have hne : b ≠ r := fun e => by rw [e, hr] at hb; cases hb
  rcases run_next_at (P := P) W ty r b since c0 seen es clock hr hb hold hsc with ⟨h0, hrun⟩ | ⟨e, he, w1, hw1, hrun⟩
  · refine .inl ⟨?_, hrun⟩
    have := congrArg List.length hl
    simp only [List.length_map, Array.length_toList, h0] at this
    exact List.length_eq_zero_iff.1 this.symm
  · have hsubl : (leftOf es seen).toList.Sublist es.toList := by unfold leftOf; rw [Array.toList_filter]; exact List.filter_sublist
    have hnl : ((leftOf es seen).toList.map (·.born)).Nodup := hbn.sublist (hsubl.map _)
    obtain ⟨x, v, hxv, k1, k2, k3⟩ := strike _ _ hl hnl hln e he
    rw [k1, k2] at hrun
    have hw1h : w1.heap = W.heap := by rcases hw1 with rfl | rfl <;> rfl
    have hgr : W.grownBy (ChangeMaps.setBlock w1 r (.mapIter (some b) since (seen.push e.born) clock)) (some r) := by
      refine ⟨?_, ?_, ?_, ?_, fun k hk hne' => ?_⟩
      · rcases hw1 with rfl | rfl <;> rfl
      · rcases hw1 with rfl | rfl <;> rfl
      · rcases hw1 with rfl | rfl <;> rfl
      · simp [ChangeMaps.setBlock, hw1h]
      · rw [setBlock_other _ _ _ _ (fun e => hne' (by rw [e])), hw1h]
    have hrr : (ChangeMaps.setBlock w1 r (.mapIter (some b) since (seen.push e.born) clock)).heap[r]? = some (.mapIter (some b) since (seen.push e.born) clock) := setBlock_heap _ _ _ (by rw [hw1h]; exact hltr)
    have hbb : (ChangeMaps.setBlock w1 r (.mapIter (some b) since (seen.push e.born) clock)).heap[b]? = some (.map es clock) := by rw [setBlock_other _ _ _ _ hne, hw1h]; exact hb
    refine .inr ⟨x, v, _, hxv, hrun, ⟨es, clock, since, seen.push e.born, clock, hbb, hm, hn, hbn, hbc, hrr, hold, hscl, hscl, ?_, ?_, fun p hp => hsub p (List.mem_filter.1 hp).1⟩, hgr, by simp [ChangeMaps.setBlock, hw1h], ?_⟩
    · rw [leftOf_push]; exact k3
    · exact hln.sublist (List.filter_sublist.map _)
    · have := run_entry_at (P := P) _ r b since seen es clock e hrr hbb (hsubl.subset he) hbn
      rw [k1, k2] at this
      exact this
variable {ops : Array Oper} {rest : List Oper} {o : Oper} {a : Act} {Q : Exit → Act → World → Prop}
theorem wpList_lookup_mp (w : World) (hg : o.guard = none) (m x : Operand) (t : TypeId) (hop : o.op = Op.lookup t m x false) (vt : TypeId) (K : MapK P kt ek) (ht : P.underlying t = some (.map kt vt)) {z : Value} (hz : (zeroValue vt).run P w = .ok z w)
    (hm : a.eval m = .map (some b)) (hown : Mp ek w b l) (y : κ) (hx : a.eval x = ek y) (hK : wpList P ops Q rest (a.put o.dst ((mget y l).getD z)) w) : wpList P ops Q (o :: rest) a w := by
  refine wpList_plain hg fun K' hK' => ?_
  have hrun := (hown.lookup K ht hz y).1
  unfold Oper.wp
  simp [execOp, hop, hm, hx, hrun, Result.andThen]
  exact hK' _ _ hK
theorem wpList_lookupok_mp (w : World) (hg : o.guard = none) (m x : Operand) (t : TypeId) (hop : o.op = Op.lookup t m x true) (vt : TypeId) (K : MapK P kt ek) (ht : P.underlying t = some (.map kt vt)) {z : Value} (hz : (zeroValue vt).run P w = .ok z w)
    (hm : a.eval m = .map (some b)) (hown : Mp ek w b l) (y : κ) (hx : a.eval x = ek y) (hK : wpList P ops Q rest (a.put o.dst (.tuple #[(mget y l).getD z, .bool (mget y l).isSome])) w) : wpList P ops Q (o :: rest) a w := by
  refine wpList_plain hg fun K' hK' => ?_
  have hrun := (hown.lookup K ht hz y).2
  unfold Oper.wp
  simp [execOp, hop, hm, hx, hrun, Result.andThen]
  exact hK' _ _ hK
theorem wpList_update_mp (w : World) (hg : o.guard = none) (m x v : Operand) (t : TypeId) (hop : o.op = Op.mapUpdate t m x v) (vt : TypeId) (K : MapK P kt ek) (ht : P.underlying t = some (.map kt vt))
    (hm : a.eval m = .map (some b)) (hown : Mp ek w b l) (y : κ) (u : Value) (hx : a.eval x = ek y) (hv : a.eval v = u) (hK : ∀ w', Mp ek w' b (mput y u l) → w.grownBy w' (some b) → w'.heap.size = w.heap.size → wpList P ops Q rest (a.put o.dst undef) w') : wpList P ops Q (o :: rest) a w := by
  refine wpList_plain hg fun K' hK' => ?_
  obtain ⟨w', hrun, r1, r2, r3⟩ := hown.update K ht y u
  unfold Oper.wp
  simp [execOp, hop, hm, hx, hv, hrun, Result.andThen]
  exact hK' _ _ (hK w' r1 r2 r3)
theorem wpList_next_mp (w : World) (hg : o.guard = none) (it : Operand) (hop : o.op = Op.next it false) (hit : a.eval it = .pointer (some ⟨r, 0, none⟩)) (h : Rg ek w b r l left)
    (hDone : left = [] → wpList P ops Q rest (a.put o.dst (.tuple #[.bool false])) w)
    (hMore : ∀ x v w', (x, v) ∈ left → Rg ek w' b r l (left.filter fun p => !decide (p.1 = x)) → w.grownBy w' (some r) → w'.heap.size = w.heap.size → (Instr.entry (.pointer (some ⟨r, 0, none⟩))).run P w' = .ok (.tuple #[ek x, v]) w' → wpList P ops Q rest (a.put o.dst (.tuple #[.bool true, ek x, v])) w') : wpList P ops Q (o :: rest) a w := by
  refine wpList_plain hg fun K' hK' => ?_
  unfold Oper.wp
  rcases h.next (P := P) o.type with ⟨h0, hrun⟩ | ⟨x, v, w', h1, hrun, h2, h3, h4, h5⟩
  · simp [execOp, hop, hit, hrun, Result.andThen]
    exact hK' _ _ (hDone h0)
  · simp [execOp, hop, hit, hrun, Result.andThen]
    exact hK' _ _ (hMore x v w' h1 h2 h3 h4 h5)
end
section
variable {κ : Type} {P : Program} {ek : κ → Value} {W : World} {b : Nat} {l : List (κ × Value)}
variable {ops : Array Oper} {rest : List Oper} {o : Oper} {a : Act} {Q : Exit → Act → World → Prop}
theorem wpList_range_mp (w : World) (hg : o.guard = none) (m : Operand) (t : TypeId) (hop : o.op = Op.range t m) (kt vt : TypeId) (ht : P.underlying t = some (.map kt vt)) (hm : a.eval m = .map (some b)) (hown : Mp ek w b l)
    (hK : ∀ w', Rg ek w' b w.heap.size l l → w.grownBy w' none → w'.heap.size = w.heap.size + 1 → wpList P ops Q rest (a.put o.dst (.pointer (some ⟨w.heap.size, 0, none⟩))) w') : wpList P ops Q (o :: rest) a w := by
  refine wpList_plain hg fun K' hK' => ?_
  obtain ⟨w', hrun, r1, r2, r3⟩ := hown.range (P := P) ht
  unfold Oper.wp
  simp [execOp, hop, hm, hrun, Result.andThen]
  exact hK' _ _ (hK w' r1 r2 r3)
theorem run_len_mp (h : Mp ek W b l) (t ty kt vt : TypeId) (ht : P.underlying t = some (.map kt vt)) : (Builtin.len_ #[t] ty #[.map (some b)]).run P W = .ok (.int .i64 l.length) W := by
  obtain ⟨es, clock, hb, hm, _⟩ := h
  have := congrArg List.length hm
  simp only [List.length_map, Array.length_toList] at this
  simp [Builtin.len_, run_underlying ht, MapKept.run_getObj_map hb, Result.andThen, this]
  rfl
end
section
variable {κ : Type} [DecidableEq κ]
def mdel (x : κ) : List (κ × Value) → List (κ × Value)
  | [] => []
  | (k, u) :: l => if x = k then l else (k, u) :: mdel x l
theorem mdel_sub (x : κ) : ∀ l : List (κ × Value), (mdel x l).Sublist l
  | [] => List.Sublist.refl _
  | (k, u) :: l => by
    rw [mdel]
    split
    · exact List.sublist_cons_self _ _
    · exact (mdel_sub x l).cons_cons _
theorem mget_del {x y : κ} : ∀ {l : List (κ × Value)}, (l.map (·.1)).Nodup → mget y (mdel x l) = if y = x then none else mget y l
  | [], _ => by simp [mdel, mget]
  | (k, u) :: l, hn => by
    rw [List.map_cons, List.nodup_cons] at hn
    rw [mdel]
    by_cases h : x = k
    · subst h
      rw [if_pos rfl, mget]
      by_cases e : y = x
      · subst e
        rw [if_pos rfl]
        exact mget_no.2 hn.1
      · rw [if_neg e, if_neg e]
    · rw [if_neg h, mget, mget, mget_del hn.2]
      by_cases e : y = k
      · subst e
        rw [if_pos rfl, if_pos rfl, if_neg (fun q => h q.symm)]
      · rw [if_neg e, if_neg e]
theorem findAt_del {ek : κ → Value} (x : κ) : ∀ (l : List (κ × Value)) (es : List MapEntry) (i : Nat), es.map (fun e => (e.key, e.val)) = l.map (fun p => (ek p.1, p.2)) →
    (findAt x (l.map (·.1)) es i = none ∧ mdel x l = l) ∨
    ∃ j v0, findAt x (l.map (·.1)) es i = some (i + j, v0) ∧ (es.eraseIdx j).map (fun e => (e.key, e.val)) = (mdel x l).map (fun p => (ek p.1, p.2))
  | [], [], i, _ => .inl ⟨rfl, rfl⟩
  | [], e :: es, i, h => by simp at h
  | p :: l, [], i, h => by simp at h
  | (k, u) :: l, e :: es, i, h => by
    rw [List.map_cons, List.map_cons, List.cons.injEq, Prod.mk.injEq] at h
    obtain ⟨⟨h1, h2⟩, h3⟩ := h
    by_cases hx : x = k
    · subst hx
      refine .inr ⟨0, e.val, ?_, ?_⟩
      · rw [List.map_cons, findAt, if_pos rfl]; rfl
      · rw [mdel, if_pos rfl, List.eraseIdx_cons_zero, h3]
    · rcases findAt_del x l es (i + 1) h3 with ⟨g1, g2⟩ | ⟨j, v0, g1, g2⟩
      · exact .inl ⟨by rw [List.map_cons, findAt, if_neg hx, g1], by rw [mdel, if_neg hx, g2]⟩
      · refine .inr ⟨j + 1, v0, ?_, ?_⟩
        · rw [List.map_cons, findAt, if_neg hx, g1]
          congr 2
          omega
        · rw [mdel, if_neg hx, List.eraseIdx_cons_succ, List.map_cons, List.map_cons, g2, h1, h2]
variable {P : Program} {kt : TypeId} {ek : κ → Value} {W : World} {b : Nat} {l : List (κ × Value)}
theorem Mp.delete (K : MapK P kt ek) (h : Mp ek W b l) {t vt : TypeId} (ht : P.underlying t = some (.map kt vt)) (k2 ty : TypeId) (x : κ) :
    ∃ W', (Builtin.delete_ #[t, k2] ty #[.map (some b), ek x]).run P W = .ok (.tuple #[]) W' ∧ Mp ek W' b (mdel x l) ∧ W.grownBy W' (some b) ∧ W'.heap.size = W.heap.size := by
  have hlt := h.lt
  have hnd : ((mdel x l).map (·.1)).Nodup := h.nodup.sublist ((mdel_sub x l).map _)
  obtain ⟨es, clock, hb, hm, hn, hbn, hbc⟩ := h
  have hk : es.toList.map (·.key) = (l.map (·.1)).map ek := by
    have := congrArg (List.map Prod.fst) hm
    simpa [List.map_map, Function.comp_def] using this
  have hf := K.find x es.toList (l.map (·.1)) W hk
  have hgr : ∀ o : Obj, W.grownBy { W with heap := W.heap.setIfInBounds b o } (some b) := fun o => ⟨rfl, rfl, rfl, by simp, fun k _ hne => by
    show (W.heap.setIfInBounds b o)[k]? = _
    rw [Array.getElem?_setIfInBounds, if_neg (fun e => hne (by rw [e]))]⟩
  have hat : ∀ o : Obj, ({ W with heap := W.heap.setIfInBounds b o } : World).heap[b]? = some o := fun o => by
    show (W.heap.setIfInBounds b o)[b]? = _
    rw [Array.getElem?_setIfInBounds, if_pos rfl, if_pos hlt]
  rcases findAt_del x l es.toList 0 hm with ⟨g1, g2⟩ | ⟨j, v0, g1, g2⟩
  · rw [g1] at hf
    rw [g2]
    refine ⟨{ W with heap := W.heap.setIfInBounds b (.map es clock) }, ?_, ⟨_, _, hat _, hm, hn, hbn, hbc⟩, hgr _, by simp⟩
    simp [Builtin.delete_, run_underlying ht, MapKept.run_getObj_map hb, K.chk, hf, MapKept.run_setObj_map _ hb, Result.andThen]
  · rw [g1, Nat.zero_add] at hf
    have he : (es.eraseIdxIfInBounds j).toList = es.toList.eraseIdx j := Array.toList_eraseIdxIfInBounds
    have hs : (es.toList.eraseIdx j).Sublist es.toList := List.eraseIdx_sublist _ _
    refine ⟨{ W with heap := W.heap.setIfInBounds b (.map (es.eraseIdxIfInBounds j) clock) }, ?_, ⟨_, _, hat _, by rw [he]; exact g2, hnd, by rw [he]; exact hbn.sublist (hs.map _), by rw [he]; exact fun e h => hbc e (hs.subset h)⟩, hgr _, by simp⟩
    simp [Builtin.delete_, run_underlying ht, MapKept.run_getObj_map hb, K.chk, hf, MapKept.run_setObj_map _ hb, Result.andThen]
variable {ops : Array Oper} {rest : List Oper} {o : Oper} {a : Act} {Q : Exit → Act → World → Prop}
theorem wpList_delete_mp (w : World) (hg : o.guard = none) (m x : Operand) (t k : TypeId) (hop : o.op = Op.call { callee := Callee.builtin Builtin.delete, args := #[m, x], argTypes := #[t, k] })
    (vt : TypeId) (K : MapK P kt ek) (ht : P.underlying t = some (.map kt vt)) (hm : a.eval m = .map (some b)) (hown : Mp ek w b l) (y : κ) (hx : a.eval x = ek y)
    (hK : ∀ w', Mp ek w' b (mdel y l) → w.grownBy w' (some b) → w'.heap.size = w.heap.size → wpList P ops Q rest (a.put o.dst (.tuple #[])) w') : wpList P ops Q (o :: rest) a w := by
  refine wpList_plain hg fun K' hK' => ?_
  obtain ⟨w', hrun, r1, r2, r3⟩ := hown.delete K ht k o.type y
  unfold Oper.wp
  simp [execOp, hop, resolve, invoke, builtin, hm, hx, hrun, Result.andThen]
  exact hK' _ _ (hK w' r1 r2 r3)
end
section
variable {κ : Type} [DecidableEq κ] {P : Program} {kt : TypeId} {ek : κ → Value}
theorem run_asking (heq : ∀ x y w, (Op.equal kt (ek x) (ek y)).run P w = .ok (decide (x = y)) w) (x : κ) (w : World) : ∀ (es : List MapEntry) (l : List κ) (i : Nat), es.map (·.key) = l.map ek → (Instr.findAsking kt (ek x) es i).run P w = .ok (findAt x l es i) w
  | [], [], i, _ => by simp [Instr.findAsking, findAt]
  | [], k :: l, i, h => by simp at h
  | e :: es, [], i, h => by simp at h
  | e :: es, k :: l, i, h => by
    rw [List.map_cons, List.map_cons, List.cons.injEq] at h
    have ih := run_asking heq x w es l (i + 1) h.2
    have hq := heq x k w
    rw [← h.1] at hq
    by_cases hx : x = k
    · subst hx
      rw [decide_eq_true rfl] at hq
      simp [Instr.findAsking, hq, Result.andThen, findAt]
    · rw [decide_eq_false hx] at hq
      simp [Instr.findAsking, hq, Result.andThen, findAt, hx, ih]
theorem mapK_agg {d : TypeDesc} (hd : P.underlying kt = some d) (hnow : ∀ x y, Instr.sameNow d (ek x) (ek y) = none) (heq : ∀ x y w, (Op.equal kt (ek x) (ek y)).run P w = .ok (decide (x = y)) w)
    (hchk : ∀ b x w, (Instr.checkKey b 10000 kt (ek x)).run P w = .ok () w) (hbits : ∀ x, Instr.sameBits 10000 (ek x) (ek x) = true) : MapK P kt ek where
  chk := hchk
  bits := hbits
  find x es l w h := by
    have ha := run_asking heq x w es l 0 h
    cases es with
    | nil =>
      cases l with
      | nil => simp [Instr.findKey, run_underlying hd, Instr.findNow, findAt, Result.andThen]
      | cons k l => simp at h
    | cons e es =>
      cases l with
      | nil => simp at h
      | cons k l =>
        have h1 : e.key = ek k := (List.cons.inj h).1
        have h2 : Instr.findNow d (ek x) (e :: es) 0 = none := by rw [Instr.findNow, h1, hnow x k]
        simp [Instr.findKey, run_underlying hd, h2, Result.andThen, ha]
end
def ekT (x : Th) : Value := .agg #[.int .i64 x.1, .int .i64 x.2.1, .int .i64 x.2.2]
theorem run_eqT (x y : Th) (w : World) : (Op.equalIn 10000 138 (ekT x) (ekT y)).run Tryz.prog w = .ok (decide (x = y)) w := by
  unfold ekT
  rw [← th_eq]
  rw [run_equalIn_agg w 9999 138 _ _ (by kernel_rfl) (by kernel_rfl)]
  simp only [Program.fieldsOf, Tryz.underlying138]
  simp [go_sem, Tryz.underlying3, part]
  by_cases h1 : x.1 = y.1 <;> by_cases h2 : x.2.1 = y.2.1 <;> by_cases h3 : x.2.2 = y.2.2 <;> simp [h1, h2, h3]
theorem chk_T (b : Bool) (x : Th) (w : World) (n : Nat) : (Instr.checkKey b (n + 1 + 1) 138 (ekT x)).run Tryz.prog w = .ok () w := by
  unfold ekT
  simp [Instr.checkKey, run_underlying Tryz.underlying138, run_underlying Tryz.underlying3, go_sem, part, Result.andThen]
theorem t_keys : MapK Tryz.prog 138 ekT :=
  mapK_agg Tryz.underlying138 (fun _ _ => rfl) (fun x y w => run_eqT x y w) (fun b x w => chk_T b x w 9998) (fun x => by unfold ekT; simp [Instr.sameBits])
theorem rwithin_any (n m : Int) (b : Bool) (hb : decide (0 ≤ n ∧ n ≤ m) = b) (w : World) :
    Calls Tryz.prog 90 #[.int .i64 n, .int .i64 m] w fun e w' => e = .returned (.bool b) ∧ w' = w := by
  have HB := Lib.hid hb
  clear hb
  by_cases h0 : 0 ≤ n
  · by_cases h1 : n ≤ m
    · have h2 : decide (n ≤ m) = true := by rw [decide_eq_true_iff]; exact h1
      have HE : RowKit.Hid (b = true) := Lib.hid (by rw [← HB.out, decide_eq_true_iff]; exact ⟨h0, h1⟩)
      go_enter Tryz.func90, Tryz.ntmps90
      go_wp2
      go_ret
      exact ⟨by rw [HE.out]; rfl, rfl⟩
    · have h2 : decide (n ≤ m) = false := by rw [decide_eq_false_iff_not]; exact h1
      have HE : RowKit.Hid (b = false) := Lib.hid (by rw [← HB.out, decide_eq_false_iff_not]; exact fun h => h1 h.2)
      clear h1
      go_enter Tryz.func90, Tryz.ntmps90
      go_wp2
      go_ret
      exact ⟨by rw [HE.out]; rfl, rfl⟩
  · have h2 : decide (0 ≤ n) = false := by rw [decide_eq_false_iff_not]; exact h0
    have h3 : n < 0 := by omega
    have HE : RowKit.Hid (b = false) := Lib.hid (by rw [← HB.out, decide_eq_false_iff_not]; exact fun h => h0 h.1)
    clear h0
    go_enter Tryz.func90, Tryz.ntmps90
    go_wp2
    go_ret
    exact ⟨by rw [HE.out]; rfl, rfl⟩
theorem of_any (x : Ev) (w : World) :
    Calls Tryz.prog 62 #[.agg #[.int .i64 x.1, .int .i64 x.2.1, .int .i64 x.2.2.1, .int .i64 x.2.2.2.1, .int .i64 x.2.2.2.2]] w fun e w' => e = .returned (ekT (thing x)) ∧ Below w.heap.size w w' := by
  go_enter Tryz.func62, Tryz.ntmps62
  go_wp2
  refine bodyPost_ret (v := .agg #[.int .i64 x.2.1, .int .i64 x.2.2.1, .int .i64 x.2.2.2.1]) (by simp [results, Tryz.results62, go_sem]) rfl ⟨rfl, ?_⟩
  exact below_two w _ _
theorem below_undrew {a w : World} (h : Below a.drew.heap.size a.drew w) : Below a.heap.size a w := ⟨h.os, h.tape, h.output, h.size, h.block⟩
/-- What an event makes of a state. -/
def doesD (D : List (Th × Value)) (x : Ev) : List (Th × Value) := if x.2.1 = 5 then D else if x.2.2.2.2 = 0 then mdel (thing x) D else mput (thing x) (.int .i64 x.2.2.2.2) D
/-- How does ends. -/
def DoR (D : List (Th × Value)) (bm : Nat) (w : World) (e : Ending) (w' : World) : Prop := e = .returned (.tuple #[]) ∧ Mp ekT w' bm D ∧ w.grownBy w' (some bm)
theorem doR {D D' : List (Th × Value)} (hd : D' = D) {bm : Nat} {w w' : World} (hm : Mp ekT w' bm D) (hg : w.grownBy w' (some bm)) : DoR D' bm w (.returned (.tuple #[])) w' := ⟨rfl, by rw [hd]; exact hm, hg⟩
theorem grown_of {w w' : World} (h : Below w.heap.size w w') (b : Nat) : w.grownBy w' (some b) := ⟨h.os, h.tape, h.output, h.size, fun i hi _ => h.block i hi⟩
set_option maxRecDepth 100000 in
set_option maxHeartbeats 1600000 in
theorem does_any (x : Ev) (bm : Nat) (D : List (Th × Value)) (w : World) (hm : Mp ekT w bm D) :
    Calls Tryz.prog 63 #[.map (some bm), .agg #[.int .i64 x.1, .int .i64 x.2.1, .int .i64 x.2.2.1, .int .i64 x.2.2.2.1, .int .i64 x.2.2.2.2]] w (DoR (doesD D x) bm w) := by
  have hb0 : Below w.heap.size w (w.alloc (.cells #[.int .i64 x.1, .int .i64 x.2.1, .int .i64 x.2.2.1, .int .i64 x.2.2.2.1, .int .i64 x.2.2.2.2] 68)) := (Below.refl _ _).alloc (Nat.le_refl _) _
  have HB0 := Lib.hid hb0
  have HM := Lib.hid hm
  have HM0 := Lib.hid (hm.below hb0)
  have HK := Lib.hid (Blk.new w 68 #[.int .i64 x.1, .int .i64 x.2.1, .int .i64 x.2.2.1, .int .i64 x.2.2.2.1, .int .i64 x.2.2.2.2])
  clear hm hb0
  by_cases h5 : x.2.1 = 5
  · have HD : RowKit.Hid (doesD D x = D) := Lib.hid (by unfold doesD; rw [if_pos h5])
    have h5' : (x.2.1 == 5) = true := by rw [beq_iff_eq]; exact h5
    clear h5
    go_enter Tryz.func63, Tryz.ntmps63
    go_wp2
    go_end0
    exact doR HD.out HM0.out (grown_of HB0.out bm)
  · have h5' : (x.2.1 == 5) = false := by rw [beq_eq_false_iff_ne]; exact h5
    have H5 := Lib.hid h5
    clear h5
    by_cases h0 : x.2.2.2.2 = 0
    · have HD : RowKit.Hid (doesD D x = mdel (thing x) D) := Lib.hid (by unfold doesD; rw [if_neg H5.out, if_pos h0])
      have h0' : (x.2.2.2.2 == 0) = true := by rw [beq_iff_eq]; exact h0
      clear h0
      go_enter Tryz.func63, Tryz.ntmps63
      go_wp2_with (go_at_call 62; refine (of_any x _).mono ?_; rintro e w' ⟨rfl, hb⟩; have HB := Lib.hid (below_step HB0.out hb); obtain ⟨w4, hdel, hm4, hg4, hs4⟩ := (HM0.out.below hb).delete t_keys Tryz.underlying135 138 0 (thing x); clear hb)
      go_end0
      exact doR HD.out hm4 ((grown_of HB.out bm).trans hg4)
    · have HD : RowKit.Hid (doesD D x = mput (thing x) (.int .i64 x.2.2.2.2) D) := Lib.hid (by unfold doesD; rw [if_neg H5.out, if_neg h0])
      have h0' : (x.2.2.2.2 == 0) = false := by rw [beq_eq_false_iff_ne]; exact h0
      clear h0
      go_enter Tryz.func63, Tryz.ntmps63
      go_wp2_with fail
      have kx := HK.out.cell 4
      go_region_with (go_at_call 62; refine (of_any x _).mono ?_; rintro e w' ⟨rfl, hb⟩; have HB := Lib.hid (below_step HB0.out (below_undrew hb)); have ky := (HK.out.below (below_undrew hb)).cell 4; obtain ⟨w4, hup, hm4, hg4, hs4⟩ := (HM0.out.below (below_undrew hb)).update t_keys Tryz.underlying135 (thing x) (.int .i64 x.2.2.2.2); clear hb)
      all_goals
        go_wp2
        go_end0
        exact doR HD.out hm4 ((grown_of HB.out bm).trans hg4)
def evC (x : Ev) : List Value := [.int .i64 x.1, .int .i64 x.2.1, .int .i64 x.2.2.1, .int .i64 x.2.2.2.1, .int .i64 x.2.2.2.2]
theorem evC_len (x : Ev) : (evC x).length = 5 := rfl
theorem ARd.evAt {w : World} {v : Value} {l : List Ev} (h : ARd w v 5 (l.map evC)) (i : Nat) (hi : i < l.length) : ∃ b o c, v = .slice (some ⟨b, o, none⟩) l.length c ∧ b < w.heap.size ∧ w.cell? ⟨b, o + i * 5, none⟩ = some (.int .i64 l[i].1) ∧ w.cell? ⟨b, o + i * 5 + 1, none⟩ = some (.int .i64 l[i].2.1) ∧ w.cell? ⟨b, o + i * 5 + 2, none⟩ = some (.int .i64 l[i].2.2.1) ∧ w.cell? ⟨b, o + i * 5 + 3, none⟩ = some (.int .i64 l[i].2.2.2.1) ∧ w.cell? ⟨b, o + i * 5 + 4, none⟩ = some (.int .i64 l[i].2.2.2.2) := by
  obtain ⟨b, o, c, e, hlt, hc⟩ := h.at i (by simpa using hi)
  rw [List.getElem_map] at hc
  rw [List.length_map] at e
  exact ⟨b, o, c, e, hlt, hc 0 _ rfl, hc 1 _ rfl, hc 2 _ rfl, hc 3 _ rfl, hc 4 _ rfl⟩
theorem ARd.evForm {w : World} {v : Value} {l : List Ev} (h : ARd w v 5 (l.map evC)) : ∃ a c, v = .slice a l.length c := by
  obtain ⟨a, c, e⟩ := h.form
  exact ⟨a, c, by simpa using e⟩
theorem blk_keep {W W' : World} {B : Nat} {t : TypeId} {cs : Array Value} {b : Nat} (h : Blk W B t cs) (hg : W.grownBy W' (some b)) (hne : B ≠ b) : Blk W' B t cs := (hg.block B h.lt (fun e => hne (Option.some.inj e))).trans h
/-- The map of a state. -/
structure StM (W : World) (bm : Nat) (l : List Ev) (D : List (Th × Value)) : Prop where
  m : Mp ekT W bm D
  v : ∀ t, (mget t D).getD (.int .i64 0) = .int .i64 (onV l t)
theorem StM.does {W W' : World} {bm : Nat} {l : List Ev} {D : List (Th × Value)} (h : StM W bm l D) (x : Ev) (hm : Mp ekT W' bm (doesD D x)) : StM W' bm (l ++ [x]) (doesD D x) := by
  refine ⟨hm, fun t => ?_⟩
  rw [onV_snoc]
  unfold doesD onS
  by_cases h5 : x.2.1 = 5
  · rw [if_pos h5, if_neg (fun q => q.1 h5)]
    exact h.v t
  · rw [if_neg h5]
    by_cases h0 : x.2.2.2.2 = 0
    · rw [if_pos h0, mget_del h.m.nodup]
      by_cases e : t = thing x
      · rw [if_pos e, if_pos ⟨h5, e.symm⟩, h0]; rfl
      · rw [if_neg e, if_neg (fun q => e q.2.symm)]
        exact h.v t
    · rw [if_neg h0, mget_put]
      by_cases e : t = thing x
      · rw [if_pos e, if_pos ⟨h5, e.symm⟩]; rfl
      · rw [if_neg e, if_neg (fun q => e q.2.symm)]
        exact h.v t
theorem StM.below {W W' : World} {bm : Nat} {l : List Ev} {D : List (Th × Value)} (h : StM W bm l D) (hb : Below W.heap.size W W') : StM W' bm l D := ⟨h.m.below hb, h.v⟩
theorem StM.look {W : World} {bm : Nat} {l : List Ev} {D : List (Th × Value)} (h : StM W bm l D) (t : Th) : (Instr.lookup 135 (.map (some bm)) (ekT t) false).run Tryz.prog W = .ok (.int .i64 (onV l t)) W := by
  rw [← h.v t]
  exact (h.m.lookup t_keys Tryz.underlying135 (Tryz.zeroValue3 _) t).1
theorem stM_look {W W' : World} {bm : Nat} {l : List Ev} {t : Th} {n : Int} (h : ∃ D, StM W bm l D) (hb : Below W.heap.size W W') (hn : onV l t = n) : (Instr.lookup 135 (.map (some bm)) (ekT t) false).run Tryz.prog W' = .ok (.int .i64 n) W' := by
  obtain ⟨D, hD⟩ := h
  rw [← hn]
  exact (hD.below hb).look t
theorem stM_keep {W W' : World} {bm : Nat} {l : List Ev} (h : ∃ D, StM W bm l D) (hb : Below W.heap.size W W') : ∃ D, StM W' bm l D := by
  obtain ⟨D, hD⟩ := h
  exact ⟨D, hD.below hb⟩
theorem tickB_next {l : List Ev} {i : Nat} (h : i < l.length) : tickB l (i + 1) = l[i].1 := by
  unfold tickB
  rw [if_neg (by omega), show i + 1 - 1 = i by omega, getD_at h]
theorem recF_tick {S : Sp} {l : List Ev} {i : Nat} (hi : i < l.length) (h : l[i].1 < tickB l i ∨ 100000000 < l[i].1) : recF S l i = 7 := by unfold recF; rw [getD_at hi, if_pos h]
theorem recF_ev {S : Sp} {l : List Ev} {i : Nat} (hi : i < l.length) (h : ¬ (l[i].1 < tickB l i ∨ 100000000 < l[i].1)) {e : Int} (he : evE S l[i] = e) (h0 : e ≠ 0) : recF S l i = e := by unfold recF; rw [getD_at hi, if_neg h, he, if_neg h0]
theorem recF_twice {S : Sp} {l : List Ev} {i : Nat} (hi : i < l.length) (h : ¬ (l[i].1 < tickB l i ∨ 100000000 < l[i].1)) (he : evE S l[i] = 0) (h5 : l[i].2.1 ≠ 5) (hv : onV (l.take i) (thing l[i]) = l[i].2.2.2.2) : recF S l i = 8 := by unfold recF; rw [getD_at hi, if_neg h, if_pos he, if_pos ⟨h5, hv⟩]
theorem recF_good {S : Sp} {l : List Ev} {i : Nat} (hi : i < l.length) (h : ¬ (l[i].1 < tickB l i ∨ 100000000 < l[i].1)) (he : evE S l[i] = 0) (hv : ¬ (l[i].2.1 ≠ 5 ∧ onV (l.take i) (thing l[i]) = l[i].2.2.2.2)) : recF S l i = 0 := by unfold recF; rw [getD_at hi, if_neg h, if_pos he, if_neg hv]
theorem recE_sp {S : Sp} {l : List Ev} {e : Int} (h : (checkP S).2 = e) (h0 : e ≠ 0) : recE S l = (0, e) := by unfold recE; rw [h, if_neg h0]
theorem recE_long {S : Sp} {l : List Ev} (h : (checkP S).2 = 0) (hl : 20000 < l.length) : recE S l = (0, 3) := by unfold recE; rw [if_pos h, if_pos hl]
theorem recE_at {S : Sp} {l : List Ev} (h : (checkP S).2 = 0) (hl : ¬ 20000 < l.length) {i : Nat} (hi : i < l.length) (hp : ∀ j, j < i → recF S l j = 0) {e : Int} (he : recF S l i = e) (h0 : e ≠ 0) : recE S l = ((i : Int), e) := by
  unfold recE
  rw [if_pos h, if_neg hl, fst0_some hi (by rw [he]; exact h0) hp]
  simp only [he]
theorem recE_good {S : Sp} {l : List Ev} (h : (checkP S).2 = 0) (hl : ¬ 20000 < l.length) (hp : ∀ j, j < l.length → recF S l j = 0) : recE S l = (0, 0) := by
  unfold recE
  rw [if_pos h, if_neg hl, fst0_none.2 hp]
/-- How Check ends. -/
def RecR (S : Sp) (l : List Ev) (w : World) (e : Ending) (w' : World) : Prop := e = .returned (.tuple #[.int .i64 (recE S l).1, .int .i64 (recE S l).2]) ∧ Below w.heap.size w w'
theorem recR {S : Sp} {l : List Ev} {a b : Int} (h : recE S l = (a, b)) {w w' : World} (hb : Below w.heap.size w w') : RecR S l w (.returned (.tuple #[.int .i64 a, .int .i64 b])) w' := ⟨by rw [h], hb⟩
theorem upto_next {f : Nat → Int} {i : Nat} (h : ∀ j, j < i → f j = 0) (hi : f i = 0) : ∀ j, j < i + 1 → f j = 0 := fun j hj => by
  by_cases e : j = i
  · rw [e]; exact hi
  · exact h j (by omega)
/-- What event says of the events of a list. -/
def EvOk (S : Sp) (v1 v2 v3 v4 : Value) (f : Nat → Value) (l : List Ev) : Prop := ∀ x ∈ l, ∀ w, SpRd w v1 v2 v3 v4 f S → Calls Tryz.prog 61 #[.agg #[v1, v2, v3, v4], .agg #[.int .i64 x.1, .int .i64 x.2.1, .int .i64 x.2.2.1, .int .i64 x.2.2.2.1, .int .i64 x.2.2.2.2]] w (NumR (evE S x) w)
set_option maxRecDepth 100000 in
set_option maxHeartbeats 6400000 in
theorem rec_any (v1 v2 v3 v4 : Value) (S : Sp) (ok : SpOk S) (f : Nat → Value) (l : List Ev) (vl : Value) (w : World) (t : Tabs w) (hsp : SpRd w v1 v2 v3 v4 f S) (hl : l.length ≤ 1000000) (hlv : ARd w vl 5 (l.map evC)) (hev : EvOk S v1 v2 v3 v4 f l) :
    Calls Tryz.prog 33 #[.agg #[v1, v2, v3, v4], vl] w (RecR S l w) := by
  obtain ⟨al, cl, rfl⟩ := hlv.evForm
  have hb0 : Below w.heap.size w (w.alloc (.cells #[v1, v2, v3, v4] 27)) := (Below.refl _ _).alloc (Nat.le_refl _) _
  have HX := Lib.hid (Blk.new w 27 #[v1, v2, v3, v4])
  have HB0 := Lib.hid hb0
  have HSP := Lib.hid hsp
  have HT := Lib.hid t
  have HOK := Lib.hid ok
  have HLV := Lib.hid hlv
  have HEV := Lib.hid hev
  obtain ⟨fl, er, hck⟩ : ∃ (fl : Int × Int × Int) (er : Int), ckV (checkP S) = .tuple #[.agg #[.int .i64 fl.1, .int .i64 fl.2.1, .int .i64 fl.2.2], .int .i64 er] ∧ (checkP S).2 = er := ⟨_, _, rfl, rfl⟩
  have HCK := Lib.hid hck.1
  have HER := Lib.hid hck.2
  clear hb0 hsp t ok hlv hev hck
  go_enter Tryz.func33, Tryz.ntmps33
  go_wp2_with fail
  refine (check_any v1 v2 v3 v4 S HOK.out _ (HT.out.below HB0.out) f (HSP.out.later HB0.out)).mono ?_
  rw [HCK.out]
  rintro e W1 ⟨rfl, hb1⟩
  obtain ⟨W2, hw2⟩ : ∃ W2, W1.alloc (.cells #[.int .i64 fl.1, .int .i64 fl.2.1, .int .i64 fl.2.2] 94) = W2 := ⟨_, rfl⟩
  have hb2 : Below W1.heap.size W1 W2 := by rw [← hw2]; exact (Below.refl _ _).alloc (Nat.le_refl _) _
  have HB := Lib.hid (below_step (below_step HB0.out hb1) hb2)
  have HX2 := Lib.hid ((HX.out.below hb1).below hb2)
  clear hb1 hb2
  by_cases he : er = 0
  · have HE : RowKit.Hid ((checkP S).2 = 0) := by rw [HER.out]; exact Lib.hid he
    subst he
    by_cases hg : 20000 < l.length
    · have HEX := Lib.hid (recE_long HE.out hg)
      have hg2 : decide ((20000 : Int) < (l.length : Int)) = true := by rw [decide_eq_true_iff]; omega
      clear hg
      go_wp2
      go_ret2
      exact recR HEX.out HB.out
    · have HG := Lib.hid hg
      have hg2 : decide ((20000 : Int) < (l.length : Int)) = false := by rw [decide_eq_false_iff_not]; omega
      have hg3 : l.length ≤ 20000 := by omega
      have hmm := @run_makeMap Tryz.prog
      clear hg
      go_wp2
      have HM0 := Lib.hid (show StM (W2.alloc (.map #[] 0)) W2.heap.size [] [] from ⟨Mp.made W2, fun t => rfl⟩)
      have HBM := Lib.hid (show Below W2.heap.size W2 (W2.alloc (.map #[] 0)) from (Below.refl _ _).alloc (Nat.le_refl _) _)
      clear hmm hw2
      go_loopw [9, 27] (fun y x wr => ∃ (i : Nat), i ≤ l.length ∧ y = .int .i64 (tickB l i) ∧ x = .int .i64 i ∧ RowKit.Hid (∀ j, j < i → recF S l j = 0) ∧ RowKit.Hid (∃ D, StM wr W2.heap.size (l.take i) D) ∧ RowKit.Hid (Below W2.heap.size W2 wr)) (fun _ x _ => l.length - (intOf x).toNat)
      case atStart => exact ⟨0, by omega, rfl, rfl, Lib.hid (fun j h => absurd h (Nat.not_lt_zero j)), Lib.hid ⟨[], HM0.out⟩, HBM⟩
      obtain ⟨i, hi, rfl, rfl, hF, hM, hW⟩ := hrel
      obtain ⟨lt, hlt'⟩ : ∃ lt, tickB l i = lt := ⟨_, rfl⟩
      rw [hlt']
      have HLT := Lib.hid hlt'
      clear hlt'
      by_cases hlt : i < l.length
      · have hi2 : (i : Int) < (l.length : Int) := by omega
        have HBW := Lib.hid (below_step HB.out hW.out)
        obtain ⟨b, o, c', ev', hbl, q0, q1, q2, q3, q4⟩ := (HLV.out.later HBW.out).evAt i hlt
        cases ev'
        obtain ⟨x, hx⟩ : ∃ x, l[i] = x := ⟨_, rfl⟩
        have hxm : x ∈ l := by rw [← hx]; exact List.getElem_mem hlt
        rw [hx] at q0 q1 q2 q3 q4
        have HXE := Lib.hid hx
        have HXM := Lib.hid hxm
        have HKX := Lib.hid (Blk.new wr 68 #[.int .i64 x.1, .int .i64 x.2.1, .int .i64 x.2.2.1, .int .i64 x.2.2.2.1, .int .i64 x.2.2.2.2])
        have HBX := Lib.hid (show Below wr.heap.size wr (wr.alloc (.cells #[.int .i64 x.1, .int .i64 x.2.1, .int .i64 x.2.2.1, .int .i64 x.2.2.2.1, .int .i64 x.2.2.2.2] 68)) from (Below.refl _ wr).alloc (Nat.le_refl _) _)
        have HMX := Lib.hid (show ∃ D, StM (wr.alloc (.cells #[.int .i64 x.1, .int .i64 x.2.1, .int .i64 x.2.2.1, .int .i64 x.2.2.2.1, .int .i64 x.2.2.2.2] 68)) W2.heap.size (l.take i) D from by obtain ⟨D, hD⟩ := hM.out; exact ⟨D, hD.below HBX.out⟩)
        have HWX := Lib.hid (below_step hW.out HBX.out)
        clear hx hxm
        by_cases ht1 : x.1 < lt
        · have HEX := Lib.hid (recE_at HE.out HG.out hlt hF.out (recF_tick hlt (by rw [HXE.out, HLT.out]; exact .inl ht1)) (by decide))
          have HBE := Lib.hid (below_step HB.out HWX.out)
          go_wp2
          go_ret2
          exact recR HEX.out HBE.out
        · have ht1' : decide (x.1 < lt) = false := by rw [decide_eq_false_iff_not]; exact ht1
          by_cases ht2 : 100000000 < x.1
          · have HEX := Lib.hid (recE_at HE.out HG.out hlt hF.out (recF_tick hlt (by rw [HXE.out, HLT.out]; exact .inr ht2)) (by decide))
            have HBE := Lib.hid (below_step HB.out HWX.out)
            clear ht1
            go_wp2
            go_ret2
            exact recR HEX.out HBE.out
          · have ht2' : decide (100000000 < x.1) = false := by rw [decide_eq_false_iff_not]; exact ht2
            have HTK : RowKit.Hid (¬ (l[i].1 < tickB l i ∨ 100000000 < l[i].1)) := Lib.hid (by rw [HXE.out, HLT.out]; omega)
            clear ht1 ht2
            have x0 : wr.cell? ⟨w.heap.size, 0, none⟩ = some v1 := (HX2.out.below hW.out).cell 0
            have x1 : wr.cell? ⟨w.heap.size, 1, none⟩ = some v2 := (HX2.out.below hW.out).cell 1
            have x2 : wr.cell? ⟨w.heap.size, 2, none⟩ = some v3 := (HX2.out.below hW.out).cell 2
            have x3 : wr.cell? ⟨w.heap.size, 3, none⟩ = some v4 := (HX2.out.below hW.out).cell 3
            have x0' := cell_alloc x0
            have x1' := cell_alloc x1
            have x2' := cell_alloc x2
            have x3' := cell_alloc x3
            obtain ⟨te, hte⟩ : ∃ te, te = evE S x := ⟨_, rfl⟩
            have HTE := Lib.hid hte
            clear hte
            go_wp2_with fail
            refine (HEV.out x HXM.out _ (HSP.out.later (below_step HB.out HWX.out))).mono ?_
            rw [← HTE.out]
            rintro e W3 ⟨rfl, hb3⟩
            have HW3 := Lib.hid (below_step HWX.out hb3)
            have HB3 := Lib.hid (below_step HB.out HW3.out)
            have HK3 := Lib.hid (HKX.out.below hb3)
            have HM3 := Lib.hid (show ∃ D, StM W3 W2.heap.size (l.take i) D from by obtain ⟨D, hD⟩ := HMX.out; exact ⟨D, hD.below hb3⟩)
            clear hb3 x0 x1 x2 x3 x0' x1' x2' x3' q0 q1 q2 q3 q4
            by_cases hte : te = 0
            · subst hte
              have HTE2 : RowKit.Hid (evE S l[i] = 0) := Lib.hid (by rw [HXE.out]; exact HTE.out.symm)
              have k0 : W3.cell? ⟨wr.heap.size, 0, none⟩ = some (.int .i64 x.1) := HK3.out.cell 0
              have k1 : W3.cell? ⟨wr.heap.size, 1, none⟩ = some (.int .i64 x.2.1) := HK3.out.cell 1
              have k2 : W3.cell? ⟨wr.heap.size, 2, none⟩ = some (.int .i64 x.2.2.1) := HK3.out.cell 2
              have k3 : W3.cell? ⟨wr.heap.size, 3, none⟩ = some (.int .i64 x.2.2.2.1) := HK3.out.cell 3
              have k4 : W3.cell? ⟨wr.heap.size, 4, none⟩ = some (.int .i64 x.2.2.2.2) := HK3.out.cell 4
              have HNE : RowKit.Hid (wr.heap.size ≠ W2.heap.size) := by
                obtain ⟨D, hD⟩ := hM.out
                have := hD.m.lt
                exact Lib.hid (by omega)
              by_cases h5 : x.2.1 = 5
              · have h5' : (x.2.1 == 5) = true := by rw [beq_iff_eq]; exact h5
                have h5'' : (x.2.1 != 5) = false := by rw [bne, h5']; rfl
                have HF2 := Lib.hid (upto_next hF.out (recF_good hlt HTK.out HTE2.out (fun q => q.1 (by rw [HXE.out]; exact h5))))
                clear h5
                go_wp2_with fail
                go_quiet (fail)
                have HM4 := Lib.hid (show ∃ D, StM (W3.drewN nq) W2.heap.size (l.take i) D from by obtain ⟨D, hD⟩ := HM3.out; exact ⟨D, hD.below (below_drewN (Below.refl _ _) nq)⟩)
                have HK4 := Lib.hid (HK3.out.drewN nq)
                have HW4 := Lib.hid (below_drewN HW3.out nq)
                clear k0 k1 k2 k3 k4
                have k0 : (W3.drewN nq).cell? ⟨wr.heap.size, 0, none⟩ = some (.int .i64 x.1) := HK4.out.cell 0
                have k1 : (W3.drewN nq).cell? ⟨wr.heap.size, 1, none⟩ = some (.int .i64 x.2.1) := HK4.out.cell 1
                have k2 : (W3.drewN nq).cell? ⟨wr.heap.size, 2, none⟩ = some (.int .i64 x.2.2.1) := HK4.out.cell 2
                have k3 : (W3.drewN nq).cell? ⟨wr.heap.size, 3, none⟩ = some (.int .i64 x.2.2.2.1) := HK4.out.cell 3
                have k4 : (W3.drewN nq).cell? ⟨wr.heap.size, 4, none⟩ = some (.int .i64 x.2.2.2.2) := HK4.out.cell 4
                generalize W3.drewN nq = W4 at *
                obtain ⟨D, hD⟩ := HM4.out
                have HD := Lib.hid hD
                have hbm := HD.out.m.lt
                clear hD
                go_wp2_with fail
                refine (does_any x W2.heap.size D _ HD.out.m).mono ?_
                rintro e W5 ⟨rfl, hm5, hg5⟩
                have HM5 := Lib.hid (show ∃ D, StM W5 W2.heap.size (l.take (i + 1)) D from ⟨_, by have := HD.out.does x hm5; rw [← HXE.out, ← List.take_succ_eq_append_getElem hlt] at this; exact this⟩)
                have HW5 := Lib.hid (HW4.out.grown hg5 HW4.out.size (fun j e => by cases e; exact Nat.le_refl _))
                have j0 := (blk_keep HK4.out hg5 HNE.out).cell 0
                have HTN := Lib.hid (show tickB l (i + 1) = x.1 by rw [tickB_next hlt, HXE.out])
                clear hm5 hg5 hbm
                go_wp2
                go_roundw
                case rel => exact ⟨i + 1, by omega, by rw [HTN.out], by go_num, HF2, HM5, HW5⟩
                case measure => simp [intOf]; omega
              · have h5' : (x.2.1 == 5) = false := by rw [beq_eq_false_iff_ne]; exact h5
                have h5'' : (x.2.1 != 5) = true := by rw [bne, h5']; rfl
                have H5 := Lib.hid h5
                obtain ⟨ov, hov⟩ : ∃ ov, onV (l.take i) (thing x) = ov := ⟨_, rfl⟩
                have HOV := Lib.hid hov
                clear h5 hov
                by_cases hv : ov = x.2.2.2.2
                · have hv' : (ov == x.2.2.2.2) = true := by rw [beq_iff_eq]; exact hv
                  have HEX := Lib.hid (recE_at HE.out HG.out hlt hF.out (recF_twice hlt HTK.out HTE2.out (by rw [HXE.out]; exact H5.out) (by rw [HXE.out, HOV.out]; exact hv)) (by decide))
                  clear hv
                  go_wp2_with fail
                  go_region_with (go_at_call 62; refine (of_any x _).mono ?_; rintro e w' ⟨rfl, hb⟩; have HB4 := Lib.hid (below_step HB3.out (below_undrew hb)); have kd4 := (HK3.out.below (below_undrew hb)).cell 4; have hlk := (stM_look HM3.out (below_undrew hb) HOV.out); clear hb)
                  all_goals
                    go_wp2
                    go_ret2
                    exact recR HEX.out HB4.out
                · have hv' : (ov == x.2.2.2.2) = false := by rw [beq_eq_false_iff_ne]; exact hv
                  have HF2 := Lib.hid (upto_next hF.out (recF_good hlt HTK.out HTE2.out (fun q => hv (by have := q.2; rw [HXE.out, HOV.out] at this; exact this))))
                  clear hv
                  go_wp2_with fail
                  go_region_with (go_at_call 62; refine (of_any x _).mono ?_; rintro e w' ⟨rfl, hb⟩; have HW4 := Lib.hid (below_step HW3.out (below_undrew hb)); have HK4 := Lib.hid (HK3.out.below (below_undrew hb)); have HM4 := Lib.hid (stM_keep HM3.out (below_undrew hb)); have kd4 := HK4.out.cell 4; have hlk := (stM_look HM3.out (below_undrew hb) HOV.out); clear hb)
                  all_goals
                    have m0 : w'.cell? ⟨wr.heap.size, 0, none⟩ = some (.int .i64 x.1) := HK4.out.cell 0
                    have m1 : w'.cell? ⟨wr.heap.size, 1, none⟩ = some (.int .i64 x.2.1) := HK4.out.cell 1
                    have m2 : w'.cell? ⟨wr.heap.size, 2, none⟩ = some (.int .i64 x.2.2.1) := HK4.out.cell 2
                    have m3 : w'.cell? ⟨wr.heap.size, 3, none⟩ = some (.int .i64 x.2.2.2.1) := HK4.out.cell 3
                    clear k0 k1 k2 k3 k4
                    obtain ⟨D, hD⟩ := HM4.out
                    have HD := Lib.hid hD
                    have hbm := HD.out.m.lt
                    clear hD
                    go_wp2_with fail
                    refine (does_any x W2.heap.size D _ HD.out.m).mono ?_
                    rintro e W5 ⟨rfl, hm5, hg5⟩
                    have HM5 := Lib.hid (show ∃ D, StM W5 W2.heap.size (l.take (i + 1)) D from ⟨_, by have := HD.out.does x hm5; rw [← HXE.out, ← List.take_succ_eq_append_getElem hlt] at this; exact this⟩)
                    have HW5 := Lib.hid (HW4.out.grown hg5 HW4.out.size (fun j e => by cases e; exact Nat.le_refl _))
                    have j0 := (blk_keep HK4.out hg5 HNE.out).cell 0
                    have HTN := Lib.hid (show tickB l (i + 1) = x.1 by rw [tickB_next hlt, HXE.out])
                    clear hm5 hg5 hbm
                    go_wp2
                    go_roundw
                    case rel => exact ⟨i + 1, by omega, by rw [HTN.out], by go_num, HF2, HM5, HW5⟩
                    case measure => simp [intOf]; omega
            · have HEX := Lib.hid (recE_at HE.out HG.out hlt hF.out (recF_ev hlt HTK.out (by rw [HXE.out]; exact HTE.out.symm) hte) hte)
              have ht2 : (te == 0) = false := beq_eq_false_iff_ne.2 hte
              clear hte
              go_wp2
              go_ret2
              exact recR HEX.out HB3.out
      · have hi2 : ¬ ((i : Int) < (l.length : Int)) := by omega
        have hie : i = l.length := by omega
        have HEX := Lib.hid (recE_good HE.out HG.out (fun j hj => hF.out j (by omega)))
        have HBW := Lib.hid (below_step HB.out hW.out)
        clear hie
        go_wp2
        go_ret2
        exact recR HEX.out HBW.out
  · have HEX := Lib.hid (recE_sp (l := l) HER.out he)
    have he2 : (er == 0) = false := beq_eq_false_iff_ne.2 he
    clear he
    go_wp2
    go_ret2
    exact recR HEX.out HB.out
set_option maxRecDepth 100000 in
set_option maxHeartbeats 3200000 in
theorem event_stop (a1 a2 a3 a4 : Option Addr) (c1 c2 c3 c4 : Nat) (S : Sp) (hok : SpOk S) (tick n v : Int) (w : World) (h0 : 0 ≤ n) (h1 : n < (S.ss.length : Int)) (hv0 : 0 ≤ v) (hv1 : v ≤ 1) :
    Calls Tryz.prog 61 #[.agg #[.slice a1 S.ds.length c1, .slice a2 S.rs.length c2, .slice a3 S.ss.length c3, .slice a4 S.cs.length c4], .agg #[.int .i64 tick, .int .i64 2, .int .i64 0, .int .i64 n, .int .i64 v]] w (NumR 0 w) := by
  have q2 := hok.s
  have W1 := fun W => rwithin_any n ((S.ss.length : Int) - 1) true (by rw [decide_eq_true_iff]; omega) W
  have W2 := fun W => rwithin_any v 1 true (by rw [decide_eq_true_iff]; omega) W
  have H1 := Lib.hid W1
  have H2 := Lib.hid W2
  clear hok W1 W2
  go_enter Tryz.func61, Tryz.ntmps61
  go_wp2_with (first | (go_at_call 90; (with_reducible refine (H1.out _).mono ?_); rintro e w' ⟨rfl, rfl⟩) | (go_at_call 90; (with_reducible refine (H2.out _).mono ?_); rintro e w' ⟨rfl, rfl⟩))
  go_ret
  exact numR rfl (below_two w _ _)
set_option maxRecDepth 100000 in
set_option maxHeartbeats 3200000 in
theorem event_key (v1 v2 v3 v4 : Value) (S : Sp) (hok : SpOk S) (f : Nat → Value) (tick : Int) (d : Nat) (n v : Int) (w : World) (hsp : SpRd w v1 v2 v3 v4 f S) (hd : d < S.ds.length) (h0 : S.ds[d].lo ≤ n) (h1 : n ≤ S.ds[d].hi) (hv0 : 0 ≤ v) (hv1 : v ≤ 1) :
    Calls Tryz.prog 61 #[.agg #[v1, v2, v3, v4], .agg #[.int .i64 tick, .int .i64 1, .int .i64 d, .int .i64 n, .int .i64 v]] w (NumR 0 w) := by
  have q1 := hok.d
  obtain ⟨⟨a1, e1, rfl⟩, ⟨a2, e2, rfl⟩, ⟨a3, e3, rfl⟩, ⟨a4, e4, rfl⟩⟩ := hsp.forms
  obtain ⟨b, o, c, ev, hbl, r0, r1, r2⟩ := hsp.dAt d hd
  cases ev
  have k0 := fun x => cell_alloc r0 x
  have k1 := fun x => cell_alloc r1 x
  have k2 := fun x => cell_alloc r2 x
  have m0 := fun x y => cell_alloc (k0 x) y
  have m1 := fun x y => cell_alloc (k1 x) y
  have m2 := fun x y => cell_alloc (k2 x) y
  have hd2 : (d : Int) < (S.ds.length : Int) := by omega
  obtain ⟨lo, hlo⟩ : ∃ lo, lo = S.ds[d].lo := ⟨_, rfl⟩
  obtain ⟨hi, hhi⟩ : ∃ hi, hi = S.ds[d].hi := ⟨_, rfl⟩
  rw [← hlo] at r1 k1 m1 h0
  rw [← hhi] at r2 k2 m2 h1
  have W1 := fun W => rwithin_any d ((S.ds.length : Int) - 1) true (by rw [decide_eq_true_iff]; omega) W
  have W2 := fun W => rwithin_any v 1 true (by rw [decide_eq_true_iff]; omega) W
  have H1 := Lib.hid W1
  have H2 := Lib.hid W2
  clear hlo hhi hok hsp W1 W2
  go_enter Tryz.func61, Tryz.ntmps61
  go_wp2_with (first | (go_at_call 90; (with_reducible refine (H1.out _).mono ?_); rintro e w' ⟨rfl, rfl⟩) | (go_at_call 90; (with_reducible refine (H2.out _).mono ?_); rintro e w' ⟨rfl, rfl⟩))
  go_ret
  exact numR rfl ((below_two w _ _).alloc (by simp; omega) _)
end Go.Proofs.YtppccacfdpkkgaaGreatDoor
