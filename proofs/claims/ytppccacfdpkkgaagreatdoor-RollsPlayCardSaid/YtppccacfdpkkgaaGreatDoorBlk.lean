/-
  A BLOCK OF CELLS THAT THE CALL MADE: what it holds, that it may be written, that it stays so behind what leaves old memory alone. No program in sight.
-/
import Derived.WalkKit
import Derived.RangeFuncBox
import Derived.WalkSmall
import Derived.Lib.Hide
namespace Go.Proofs.YtppccacfdpkkgaaGreatDoor
open Go.RowKit
def Blk (W : World) (B : Nat) (t : TypeId) (cs : Array Value) : Prop := W.heap[B]? = some (.cells cs t (0, 0))
theorem Blk.lt {W : World} {B : Nat} {t : TypeId} {cs : Array Value} (h : Blk W B t cs) : B < W.heap.size := (Array.getElem?_eq_some_iff.1 h).1
theorem Blk.cell {W : World} {B : Nat} {t : TypeId} {cs : Array Value} (h : Blk W B t cs) (i : Nat) : W.cell? ⟨B, i, none⟩ = cs[i]? := by
  simp [World.cell?, show W.heap[B]? = _ from h]
theorem Blk.frozen {W : World} {B : Nat} {t : TypeId} {cs : Array Value} (h : Blk W B t cs) (i : Nat) : W.frozen? ⟨B, i, none⟩ = false := by
  simp [World.frozen?, show W.heap[B]? = _ from h]
theorem Blk.new (W : World) (t : TypeId) (cs : Array Value) : Blk (W.alloc (.cells cs t)) W.heap.size t cs := World.alloc_heap_new W _
theorem Blk.alloc {W : World} {B : Nat} {t : TypeId} {cs : Array Value} (h : Blk W B t cs) (o : Obj) : Blk (W.alloc o) B t cs := (Below.heap_alloc W o B h.lt).trans h
theorem Blk.below {W W' : World} {B : Nat} {t : TypeId} {cs : Array Value} (h : Blk W B t cs) (hb : Below W.heap.size W W') : Blk W' B t cs := (hb.block B h.lt).trans h
theorem Blk.other {W : World} {B : Nat} {t : TypeId} {cs : Array Value} (h : Blk W B t cs) (a : Addr) (v : Value) (hne : B ≠ a.block) : Blk (W.setCell a v) B t cs := (Below.heap_setCell W a v B hne).trans h
theorem Blk.set {W : World} {B : Nat} {t : TypeId} {cs : Array Value} (h : Blk W B t cs) (i : Nat) (v : Value) : Blk (W.setCell ⟨B, i, none⟩ v) B t (cs.setIfInBounds i v) := by
  have h' : W.heap[B]'h.lt = .cells cs t (0, 0) := (Array.getElem?_eq_some_iff.1 h).2
  show (W.heap.modify B _)[B]? = _
  rw [Array.getElem?_eq_getElem (by simpa using h.lt), Array.getElem_modify_self, h']
  rfl
theorem Blk.drewN {W : World} {B : Nat} {t : TypeId} {cs : Array Value} (h : Blk W B t cs) (n : Nat) : Blk (W.drewN n) B t cs := h
/-- Two cells of a block. -/
theorem Blk.two {W : World} {B : Nat} {t : TypeId} {a b : Value} (h : Blk W B t #[a, b]) : W.cell? ⟨B, 0, none⟩ = some a ∧ W.cell? ⟨B, 1, none⟩ = some b ∧ W.frozen? ⟨B, 0, none⟩ = false ∧ W.frozen? ⟨B, 1, none⟩ = false :=
  ⟨h.cell 0, h.cell 1, h.frozen 0, h.frozen 1⟩
end Go.Proofs.YtppccacfdpkkgaaGreatDoor
