/-
  CONTRACTS: Note out of range; the reference's Note.
-/
import Derived.Test.YtoclgcneclbfiaaDoorW2
import Derived.Test.YtoclgcneclbfiaaDoorW3
import Derived.Test.YtoclgcneclbfiaaDoorW9
namespace Go.Proofs.YtoclgcneclbfiaaDoor
open Go.RowKit
theorem note_no (n : Int) (w : World) (h : n < 0 ∨ 127 < n) :
    Calls Tryd.prog 14 #[.int .i64 n] w fun e w' => e = .returned (.tuple #[.string ⟨#[]⟩, .int .i64 7]) ∧ w = w' := by
  rcases h with h | h
  all_goals
    go_enter Tryd.func14, Tryd.ntmps14
    go_wp2
    go_ret2
    exact ⟨rfl, rfl⟩
theorem rnote_no (n : Int) (w : World) (h : n < 0 ∨ 127 < n) :
    Calls Tryd.prog 15 #[.int .i64 n] w fun e w' => e = .returned (.tuple #[.string ⟨#[]⟩, .int .i64 7]) ∧ w = w' := by
  rcases h with h | h
  all_goals
    go_enter Tryd.func15, Tryd.ntmps15
    go_wp2
    go_ret2
    exact ⟨rfl, rfl⟩
theorem names_cell (w : World) (i : Nat) (h : i < 12) : (w.alloc (.cells #[.string (nm 0), .string (nm 1), .string (nm 2), .string (nm 3), .string (nm 4), .string (nm 5), .string (nm 6), .string (nm 7), .string (nm 8), .string (nm 9), .string (nm 10), .string (nm 11)] 9)).cell? ⟨w.heap.size, i, none⟩ = some (.string (nm i)) := by
  have e : (w.alloc (.cells #[.string (nm 0), .string (nm 1), .string (nm 2), .string (nm 3), .string (nm 4), .string (nm 5), .string (nm 6), .string (nm 7), .string (nm 8), .string (nm 9), .string (nm 10), .string (nm 11)] 9)).heap[w.heap.size]? = some (.cells #[.string (nm 0), .string (nm 1), .string (nm 2), .string (nm 3), .string (nm 4), .string (nm 5), .string (nm 6), .string (nm 7), .string (nm 8), .string (nm 9), .string (nm 10), .string (nm 11)] 9 (0, 0)) := heap_alloc_new _ _
  unfold World.cell?
  rw [e]
  exact (show ∀ i : Fin 12, (#[Value.string (nm 0), .string (nm 1), .string (nm 2), .string (nm 3), .string (nm 4), .string (nm 5), .string (nm 6), .string (nm 7), .string (nm 8), .string (nm 9), .string (nm 10), .string (nm 11)])[i.val]? = some (.string (nm i.val)) by intro i; match i with
      | 0 => rfl | 1 => rfl | 2 => rfl | 3 => rfl | 4 => rfl | 5 => rfl | 6 => rfl | 7 => rfl | 8 => rfl | 9 => rfl | 10 => rfl | 11 => rfl) ⟨i, h⟩
/-- names, read at one place. -/
theorem rnames_at (i : Nat) (hi : i < 12) (w : World) :
    Calls Tryd.prog 43 #[] w fun e w' => ∃ b, e = .returned (.slice (some ⟨b, 0, none⟩) 12 12) ∧ w'.cell? ⟨b, i, none⟩ = some (.string (nm i)) ∧ b < w'.heap.size ∧ Below w.heap.size w w' :=
  (rnames_any w).mono fun e w' ⟨he, hw⟩ => ⟨_, he, by rw [hw]; exact names_cell w i hi, by rw [hw]; simp, by rw [hw]; exact (Below.refl _ _).alloc (Nat.le_refl _) _⟩
theorem below_step {w a b : World} (h : Below w.heap.size w a) (hb : Below a.heap.size a b) : Below w.heap.size w b := h.trans (hb.mono h.size)
set_option maxHeartbeats 800000 in
theorem rnote_any (n : Int) (w : World) (h0 : 0 ≤ n) (h1 : n ≤ 127) :
    Calls Tryd.prog 15 #[.int .i64 n] w fun e w' => e = .returned (.tuple #[.string ⟨((nm (n % 12).toNat).data.toList ++ Lib.itoa (n / 12 - 1)).toArray⟩, .int .i64 0]) ∧ Below w.heap.size w w' := by
  have hm0 : 0 ≤ n % 12 := by omega
  have hm1 : n % 12 < 12 := by omega
  have e1 : n.tmod 12 = n % 12 := Int.tmod_eq_emod_of_nonneg h0
  have e2 : n.tdiv 12 = n / 12 := Int.tdiv_eq_ediv_of_nonneg h0
  have e3 : IntKind.i64.wrap (n / 12) = n / 12 := IntWalk.i64_in _ (by omega)
  have e4 : IntKind.i64.wrap (n / 12 - 1) = n / 12 - 1 := IntWalk.i64_in _ (by omega)
  have q1 : -9223372036854775808 ≤ n / 12 - 1 := by omega
  have q2 : n / 12 - 1 ≤ 9223372036854775807 := by omega
  have z1 := nm_le (n % 12).toNat
  have z2 := itoa_le (n / 12 - 1) q1 q2
  have z3 : ¬ 9223372036854775807 < (nm (n % 12).toNat).size + (Lib.itoa (n / 12 - 1)).length := by omega
  have hnat : (n % 12).toNat < 12 := by omega
  have hd0 : Below w.heap.size w w.drew := (Below.refl _ _).drew
  go_enter Tryd.func15, Tryd.ntmps15
  go_wp2
  go_region_with (first | (go_at_call 43; refine (rnames_at (n % 12).toNat hnat _).mono ?_; rintro e w' ⟨nb, rfl, hc, hlt, hb⟩; have hn := below_step (by assumption) hb) | (go_at_call 37; refine (rdigits_any _ _ q1 q2).mono ?_; rintro e w' ⟨rfl, hb⟩; have hn := below_step (by assumption) hb; try have hc2 := (hb.cell hlt).trans hc))
  all_goals go_wp2
  all_goals go_ret2
  all_goals exact ⟨by simp [nm, ByteArray.mk_append_mk]; exact ⟨rfl, rfl⟩, by assumption⟩
end Go.Proofs.YtoclgcneclbfiaaDoor
