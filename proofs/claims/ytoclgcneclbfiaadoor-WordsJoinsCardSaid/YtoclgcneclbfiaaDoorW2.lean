/-
  WALKS: Digits and Note of the program and of the reference.
-/
import Derived.Test.YtoclgcneclbfiaaDoorTabs
import Derived.Test.YtoclgcneclbfiaaDoorW1
import Derived.Deep.RegionHeld3
import Derived.Deep.DeepCutAuto
namespace Go.Proofs.YtoclgcneclbfiaaDoor
open Go.RowKit

set_option maxHeartbeats 400000 in
theorem digits_any (n : Int) (w : World) (h1 : -9223372036854775808 ≤ n) (h2 : n ≤ 9223372036854775807) (t : Tabs w) :
    Calls Tryd.prog 36 #[.int .i64 n] w fun e w' => e = .returned (.string ⟨(Lib.itoa n).toArray⟩) ∧ Below w.heap.size w w' := by
  go_enter Tryd.func36, Tryd.ntmps36
  go_wp2_with (go_at_call 62; refine (formatInt_any n _ h1 h2 t).mono ?_; rintro e w' ⟨rfl, hb⟩)
  go_ret
  exact ⟨rfl, hb⟩

set_option maxHeartbeats 400000 in
theorem rnames_any (w : World) :
    Calls Tryd.prog 43 #[] w fun e w' => e = .returned (.slice (some ⟨w.heap.size, 0, none⟩) 12 12) ∧ w' = w.alloc (.cells #[.string (nm 0), .string (nm 1), .string (nm 2), .string (nm 3), .string (nm 4), .string (nm 5), .string (nm 6), .string (nm 7), .string (nm 8), .string (nm 9), .string (nm 10), .string (nm 11)] 9) := by
  go_enter Tryd.func43, Tryd.ntmps43
  go_wp2
  go_ret
  exact ⟨rfl, rfl⟩

set_option maxHeartbeats 400000 in
theorem note_any (n : Int) (w : World) (t : Tabs w) (h0 : 0 ≤ n) (h1 : n ≤ 127) :
    Calls Tryd.prog 14 #[.int .i64 n] w fun e w' => e = .returned (.tuple #[.string ⟨((nm (n % 12).toNat).data.toList ++ Lib.itoa (n / 12 - 1)).toArray⟩, .int .i64 0]) ∧ Below w.heap.size w w' := by
  have hm0 : 0 ≤ n % 12 := by omega
  have hm1 : n % 12 < 12 := by omega
  have hc := t.names (n % 12).toNat (by omega)
  have e1 : n.tmod 12 = n % 12 := Int.tmod_eq_emod_of_nonneg h0
  have e2 : n.tdiv 12 = n / 12 := Int.tdiv_eq_ediv_of_nonneg h0
  have e3 : IntKind.i64.wrap (n / 12) = n / 12 := IntWalk.i64_in _ (by omega)
  have e4 : IntKind.i64.wrap (n / 12 - 1) = n / 12 - 1 := IntWalk.i64_in _ (by omega)
  have q1 : -9223372036854775808 ≤ n / 12 - 1 := by omega
  have q2 : n / 12 - 1 ≤ 9223372036854775807 := by omega
  have z1 := nm_le (n % 12).toNat
  have z2 := itoa_le (n / 12 - 1) q1 q2
  have z3 : ¬ 9223372036854775807 < (nm (n % 12).toNat).size + (Lib.itoa (n / 12 - 1)).length := by omega
  have td : Tabs w.drew := t.below (Below.refl _ _).drew
  go_enter Tryd.func14, Tryd.ntmps14
  go_wp2
  go_region_held3 (fun w' => w'.cell? ⟨0, (n % 12).toNat, none⟩ = some (.string (nm (n % 12).toNat)) ∧ Below w.heap.size w w') (first | exact ⟨hc, (Below.refl _ _).drew⟩ | exact ⟨(by assumption), (by assumption)⟩)
    (first | (go_at_call 42; refine (itoa_any _ _ q1 q2 td).mono ?_; rintro e w' ⟨rfl, hb⟩; have hb2 : Below w.heap.size w w' := (Below.refl _ _).drew.trans hb; have hc2 := (hb2.cell (cell_size hc)).trans hc; clear hb))
  go_wp2
  go_ret2
  exact ⟨by simp [nm, ByteArray.mk_append_mk], by assumption⟩
end Go.Proofs.YtoclgcneclbfiaaDoor
