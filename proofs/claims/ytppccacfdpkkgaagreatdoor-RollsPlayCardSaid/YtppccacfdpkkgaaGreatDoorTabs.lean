/-
  WHAT EVERY WALK OF THIS SEAT MAY KNOW OF THE WORLD: the listed package-level tables, and that it stays so behind a call that writes nothing old ('Tabs', 'Tabs.below'). The library's contracts in the seat's own form ('.. and Below').
-/
import Derived.Test.YtppccacfdpkkgaaGreatDoorRows
import Derived.Test.YtppccacfdpkkgaaGreatDoorPlain
import Derived.Test.YtppccacfdpkkgaaGreatDoorShelf
import Derived.WalkKit
import Derived.WalkSpells
import Derived.WalkLawsBesides
import Derived.Lib.Hide
import Derived.Lib.LaidTab
import Derived.Lib.ItoaLen
import Derived.WalkSmall
namespace Go.Proofs.YtppccacfdpkkgaaGreatDoor
open Go.RowKit

/-- The text of a note without its octave, by its number from 0 to 11. -/
def nmL : Nat → List UInt8
  | 0 => [99] | 1 => [99, 35] | 2 => [100] | 3 => [100, 35] | 4 => [101] | 5 => [102] | 6 => [102, 35] | 7 => [103] | 8 => [103, 35] | 9 => [97] | 10 => [97, 35] | 11 => [98] | _ => []
def nm (i : Nat) : ByteArray := ⟨(nmL i).toArray⟩
/-- The steps of the letters from a on. -/
def st (i : Nat) : Int := [9, 11, 0, 2, 4, 5, 7].getD i 0

theorem nm_le (i : Nat) : (nm i).size ≤ 2 := by
  show (nmL i).length ≤ 2
  unfold nmL
  split <;> decide
theorem itoa_le (n : Int) (h0 : -9223372036854775808 ≤ n) (h1 : n ≤ 9223372036854775807) : (Lib.itoa n).length ≤ 21 := Lib.itoa_length_le n h0 h1

theorem st_le (i : Nat) : 0 ≤ st i ∧ st i ≤ 11 := by
  rcases Nat.lt_or_ge i 7 with h | h
  · exact (show ∀ j : Fin 7, 0 ≤ st j.val ∧ st j.val ≤ 11 by decide) ⟨i, h⟩
  · unfold st
    rw [List.getD_eq_getElem?_getD, List.getElem?_eq_none (by simpa using h)]
    decide

structure Tabs (w : World) : Prop where
  pow : Lib.TabIs Tryz.prog w "internal/strconv.uint64pow10" .u64 Lib.pow10Tab

theorem cell_size {w : World} {p : Addr} {v : Value} (h : w.cell? p = some v) : p.block < w.heap.size := by
  unfold World.cell? at h
  split at h
  · next e => exact (Array.getElem?_eq_some_iff.1 e).1
  · cases h

theorem tab_below {P : Program} {w w' : World} {name : String} {k : IntKind} {zs : List Int} (h : Lib.TabIs P w name k zs) (hb : Below w.heap.size w w') : Lib.TabIs P w' name k zs := by
  unfold Lib.TabIs World.var? at *
  cases hg : P.globalNamed name with
  | none => simp [hg] at h
  | some g =>
    simp only [hg, Option.bind_some] at h ⊢
    have hlt : g < w.heap.size := by
      rcases Nat.lt_or_ge g w.heap.size with h' | h'
      · exact h'
      · rw [Array.getElem?_eq_none h'] at h; simp at h
    rw [hb.block g hlt]
    exact h

theorem Tabs.below {w w' : World} (t : Tabs w) (h : Below w.heap.size w w') : Tabs w' where
  pow := tab_below t.pow h

/-- The tables lie in the variables' blocks; what is written behind them leaves them. -/
theorem tab_grown {P : Program} {w w' : World} {name : String} {k : IntKind} {zs : List Int} {r : Nat} (h : Lib.TabIs P w name k zs) (hg : w.grownBy w' (some r)) (hr : ∀ g, P.globalNamed name = some g → g ≠ r) : Lib.TabIs P w' name k zs := by
  unfold Lib.TabIs World.var? at *
  cases hn : P.globalNamed name with
  | none => simp [hn] at h
  | some g =>
    simp only [hn, Option.bind_some] at h ⊢
    have hlt : g < w.heap.size := by
      rcases Nat.lt_or_ge g w.heap.size with h' | h'
      · exact h'
      · rw [Array.getElem?_eq_none h'] at h; simp at h
    rw [hg.block g hlt (fun e => hr g hn (Option.some.inj e))]
    exact h
/-- A block behind the tables. -/
structure TabLt (r : Nat) : Prop where
  pow : 0 < r
theorem pow_named : Tryz.prog.globalNamed "internal/strconv.uint64pow10" = some 0 := by kernel_rfl
theorem Tabs.lt {w : World} {r : Nat} (t : Tabs w) (h : w.heap.size ≤ r) : TabLt r where
  pow := by
    have h1 := t.pow
    unfold Lib.TabIs World.var? at h1
    simp only [pow_named, Option.bind_some] at h1
    rcases Nat.lt_or_ge 0 w.heap.size with h' | h'
    · omega
    · rw [Array.getElem?_eq_none h'] at h1; simp at h1
theorem cell_grown {w w' : World} {r : Nat} {p : Addr} {v : Value} (hc : w.cell? p = some v) (hg : w.grownBy w' (some r)) (hne : p.block ≠ r) : w'.cell? p = some v := by
  have hb := hg.block p.block (cell_size hc) (fun e => hne (Option.some.inj e))
  unfold World.cell? at *
  rw [hb]
  exact hc
theorem Tabs.grown {w w' : World} {r : Nat} (t : Tabs w) (hr : TabLt r) (hg : w.grownBy w' (some r)) : Tabs w' where
  pow := tab_grown t.pow hg (fun g hn => by rw [pow_named] at hn; have := Option.some.inj hn; have := hr.pow; omega)
theorem below_grow {B : Nat} {a w : World} (h : Below B a w) (hB : B ≤ w.heap.size) (k : Nat) (os : Array Obj) : Below B a (Sort.grow (w.drewN k) os) :=
  h.trans ⟨rfl, rfl, rfl, by simp [Sort.grow, World.drewN], fun i hi => by
    show (w.heap ++ os)[i]? = w.heap[i]?
    rw [Array.getElem?_append_left (by omega)]⟩
theorem below_drewN {B : Nat} {a w : World} (h : Below B a w) (n : Nat) : Below B a (w.drewN n) := ⟨h.os, h.tape, h.output, h.size, h.block⟩

/-- strconv.Itoa, FormatInt at base 10. -/
theorem itoa_any (n : Int) (w : World) (h1 : -9223372036854775808 ≤ n) (h2 : n ≤ 9223372036854775807) (t : Tabs w) :
    Calls Tryz.prog 128 #[.int .i64 n] w fun e w' => e = .returned (.string ⟨(Lib.itoa n).toArray⟩) ∧ Below w.heap.size w w' :=
  (Tryz.strconv_Itoa n h1 h2 w t.pow).mono fun _ _ ⟨he, k, os, hw⟩ => ⟨he, by rw [hw]; exact below_grow (Below.refl _ _) (Nat.le_refl _) k os⟩
theorem formatInt_any (n : Int) (w : World) (h1 : -9223372036854775808 ≤ n) (h2 : n ≤ 9223372036854775807) (t : Tabs w) :
    Calls Tryz.prog 117 #[.int .i64 n, .int .i64 10] w fun e w' => e = .returned (.string ⟨(Lib.itoa n).toArray⟩) ∧ Below w.heap.size w w' :=
  (Tryz.strconv_FormatInt_10 n h1 h2 w t.pow).mono fun _ _ ⟨he, k, os, hw⟩ => ⟨he, by rw [hw]; exact below_grow (Below.refl _ _) (Nat.le_refl _) k os⟩
end Go.Proofs.YtppccacfdpkkgaaGreatDoor
