/-
  CONTRACTS: the reference's ParseFeet: all footages are tried.
-/
import Derived.Test.YtoclgcneclbfiaaDoorW21
namespace Go.Proofs.YtoclgcneclbfiaaDoor
open Go.RowKit
/-- No footage before this place has this text. -/
def FMiss (l : List UInt8) (d n : Nat) : Prop := ∀ a b : Nat, (b < d ∨ b = d ∧ a < n) → ValidF a b → feetL a b ≠ l
theorem fmiss_start (l : List UInt8) : FMiss l 1 1 := fun a b h hv => by have h1 := hv.1; have h2 := hv.2.2.1; omega
theorem fmiss_step {l : List UInt8} {d n : Nat} (h : FMiss l d n) (h1 : ValidF n d → feetL n d ≠ l) : FMiss l d (n + 1) := fun a b hab hv => by
  by_cases e : b = d ∧ a = n
  · obtain ⟨rfl, rfl⟩ := e; exact h1 hv
  · exact h a b (by omega) hv
theorem fmiss_next {l : List UInt8} {d n : Nat} (h : FMiss l d n) (hn : ¬ n ≤ 64 * d) : FMiss l (d + 1) 1 := fun a b hab hv => by
  have h2 := hv.2.2.1
  have h3 := hv.2.2.2.1
  exact h a b (by omega) hv
theorem fmiss_all {l : List UInt8} {d : Nat} (h : FMiss l d 1) (hd : ¬ d ≤ 15) : footOf l = none := footOf_miss fun n e hv => h n e (by have := hv.2.1; omega) hv
theorem set_two {W : World} {B : Nat} {u v : Value} (h : Blk W B 56 #[u, v]) (a b : Value) : Blk ((W.setCell ⟨B, 0, none⟩ a).setCell ⟨B, 1, none⟩ b) B 56 #[a, b] := (h.set 0 a).set 1 b
set_option maxRecDepth 100000 in
set_option maxHeartbeats 3200000 in
theorem rparseFeet_run (s : ByteArray) (w : World) (hs : s.size ≤ 10) :
    Calls Tryd.prog 41 #[.string s] w fun e w' => e = .returned (footVal (footOf (L s))) ∧ Below w.heap.size w w' := by
  have hb0 : Below w.heap.size w (w.alloc (.cells #[.int .i64 0, .int .i64 0] 56)) := (Below.refl _ _).alloc (Nat.le_refl _) _
  have k0 : Blk (w.alloc (.cells #[.int .i64 0, .int .i64 0] 56)) w.heap.size 56 #[.int .i64 0, .int .i64 0] := Blk.new _ _ _
  go_enter Tryd.func41, Tryd.ntmps41
  go_wp2
  go_loopw [4] (fun i wr => ∃ d : Nat, 1 ≤ d ∧ d ≤ 16 ∧ i = .int .i64 d ∧ RowKit.Hid (FMiss (L s) d 1) ∧ Below w.heap.size w wr ∧ Blk wr w.heap.size 56 #[.int .i64 0, .int .i64 0]) (fun i _ => 16 - (intOf i).toNat)
  case atStart => exact ⟨1, by omega, by omega, rfl, Lib.hid (fmiss_start _), hb0, k0⟩
  case round =>
    obtain ⟨d, hd1, hd, rfl, hm, hB, hk⟩ := hrel
    by_cases hlt : d ≤ 15
    · have hlb : decide ((d : Int) ≤ 15) = true := decide_eq_true (by omega)
      go_wp2
      go_loopw [5] (fun i wr => ∃ n : Nat, 1 ≤ n ∧ n ≤ 64 * d + 1 ∧ i = .int .i64 n ∧ RowKit.Hid (FMiss (L s) d n) ∧ Below w.heap.size w wr ∧ Blk wr w.heap.size 56 #[.int .i64 0, .int .i64 0]) (fun i _ => 64 * d + 1 - (intOf i).toNat)
      case atStart => exact ⟨1, by omega, by omega, rfl, hm, hB, hk⟩
      case round =>
        obtain ⟨n, hn1, hn, rfl, hm2, hB2, hk2⟩ := hrel
        by_cases hnl : n ≤ 64 * d
        · by_cases hV : ValidF n d
          · obtain ⟨f, hf⟩ := mkL (feetL n d)
            by_cases hfs : L f = L s
            · have HW := Lib.hid (show footOf (L s) = some ((n : Int), (d : Int)) by rw [← hfs, hf]; exact footOf_back hV)
              have g1 := str_eq hfs
              have g2 := str_eq' hfs
              have CF := Lib.hid (fun w => rfeet_yes n d f hf w hV)
              clear hfs hf hV
              go_wp2_with (go_at_call 39; with_reducible refine (CF.out _).mono ?_; rintro e w2 ⟨rfl, hb3⟩; have hB3 := below_step hB2 hb3; have hk3 := hk2.below hb3; obtain ⟨cA, cB, fA, fB⟩ := hk3.two)
              obtain ⟨yC, yD, _, _⟩ := (set_two hk3 (.int .i64 n) (.int .i64 d)).two
              refine bodyPost_ret (v := .tuple #[.agg #[.int .i64 n, .int .i64 d], .int .i64 0]) (by simp [results, Tryd.results41, go_sem, yC, yD]) rfl ⟨by rw [HW.out]; rfl, ?_⟩
              exact (hB3.setCell (p := ⟨w.heap.size, 0, none⟩) (Nat.le_refl _) _).setCell (p := ⟨w.heap.size, 1, none⟩) (Nat.le_refl _) _
            · have HW := Lib.hid (fmiss_step hm2.out (fun _ e => hfs (by rw [hf]; exact e)))
              have g1 := str_ne hfs
              have g2 := str_ne' hfs
              have CF := Lib.hid (fun w => rfeet_yes n d f hf w hV)
              clear hfs hf hV
              go_wp2_with (go_at_call 39; with_reducible refine (CF.out _).mono ?_; rintro e w2 ⟨rfl, hb3⟩; have hB3 := below_step hB2 hb3; have hk3 := hk2.below hb3)
              go_roundw
              case rel => exact ⟨n + 1, by omega, by omega, by go_num, HW, hB3, hk3⟩
              case measure => simp [intOf]; omega
          · have HW := Lib.hid (fmiss_step hm2.out (fun h => absurd h hV))
            have CF := Lib.hid (fun w => rfeet_no n d w hV)
            clear hV
            go_wp2_with (go_at_call 39; with_reducible refine (CF.out _).mono ?_; rintro e w2 ⟨rfl, hb3⟩; have hB3 := below_step hB2 hb3; have hk3 := hk2.below hb3)
            go_roundw
            case rel => exact ⟨n + 1, by omega, by omega, by go_num, HW, hB3, hk3⟩
            case measure => simp [intOf]; omega
        · have HW := Lib.hid (fmiss_next hm2.out hnl)
          go_wp2
          all_goals go_roundw
          case rel => exact ⟨d + 1, by omega, by omega, by go_num, HW, hB2, hk2⟩
          case measure => simp [intOf]; omega
    · have HW := Lib.hid (fmiss_all hm.out hlt)
      obtain ⟨cA, cB, fA, fB⟩ := hk.two
      go_wp2
      obtain ⟨yC, yD, _, _⟩ := (set_two hk (.int .i64 0) (.int .i64 0)).two
      refine bodyPost_ret (v := .tuple #[.agg #[.int .i64 0, .int .i64 0], .int .i64 6]) (by simp [results, Tryd.results41, go_sem, yC, yD]) rfl ⟨by rw [HW.out]; rfl, ?_⟩
      exact (hB.setCell (p := ⟨w.heap.size, 0, none⟩) (Nat.le_refl _) _).setCell (p := ⟨w.heap.size, 1, none⟩) (Nat.le_refl _) _
set_option maxHeartbeats 800000 in
theorem rparseFeet_any (s : ByteArray) (w : World) (hs : s.size ≤ 1000000) :
    Calls Tryd.prog 41 #[.string s] w fun e w' => e = .returned (footVal (footOf (L s))) ∧ Below w.heap.size w w' := by
  by_cases h : s.size ≤ 10
  · exact rparseFeet_run s w h
  · have HW := Lib.hid (footOf_long (l := L s) (by rw [L_length]; omega))
    have hb0 : Below w.heap.size w (w.alloc (.cells #[.int .i64 0, .int .i64 0] 56)) := (Below.refl _ _).alloc (Nat.le_refl _) _
    have k0 : Blk (w.alloc (.cells #[.int .i64 0, .int .i64 0] 56)) w.heap.size 56 #[.int .i64 0, .int .i64 0] := Blk.new _ _ _
    go_enter Tryd.func41, Tryd.ntmps41
    go_wp2
    refine bodyPost_ret (v := .tuple #[.agg #[.int .i64 0, .int .i64 0], .int .i64 6]) (by simp [results, Tryd.results41, go_sem]) rfl ⟨by rw [HW.out]; rfl, ?_⟩
    exact hb0
end Go.Proofs.YtoclgcneclbfiaaDoor
