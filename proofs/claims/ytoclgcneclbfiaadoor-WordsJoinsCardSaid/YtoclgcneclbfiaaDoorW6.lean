/-
  WALKS: strings.IndexFunc with the closure of pieces, which toggles a captured variable at each quotation mark.
-/
import Derived.Test.YtoclgcneclbfiaaDoorTabs
import Derived.Test.YtoclgcneclbfiaaDoorW1
import Derived.Test.YtoclgcneclbfiaaDoorPlainR
import Derived.RangeFuncBox
import Derived.Lib.OthersKept
import Derived.Deep.LoopGhost
namespace Go.Proofs.YtoclgcneclbfiaaDoor
open Go.RowKit

/-- Of what was there only block r may have turned. -/
theorem only_below {a w w' : World} {r : Nat} (h : a.grownBy w (some r)) (hb : Below a.heap.size w w') : a.grownBy w' (some r) :=
  ⟨hb.os.trans h.os, hb.tape.trans h.tape, hb.output.trans h.output, Nat.le_trans h.size hb.size, fun i hi hne => (hb.block i hi).trans (h.block i hi hne)⟩
theorem only_set {a w : World} {r : Nat} (h : a.grownBy w (some r)) (v : Value) : a.grownBy (w.setCell ⟨r, 0, none⟩ v) (some r) :=
  ⟨h.os, h.tape, h.output, by simpa [World.setCell] using h.size, fun i hi hne => (Below.heap_setCell w ⟨r, 0, none⟩ v i (by rintro rfl; exact hne rfl)).trans (h.block i hi hne)⟩
theorem only_trans {a b c : World} {r : Nat} (h : a.grownBy b (some r)) (k : b.grownBy c (some r)) : a.grownBy c (some r) :=
  ⟨k.os.trans h.os, k.tape.trans h.tape, k.output.trans h.output, Nat.le_trans h.size k.size, fun i hi hne => (k.block i (Nat.lt_of_lt_of_le hi h.size) hne).trans (h.block i hi hne)⟩

set_option maxHeartbeats 400000 in
theorem ends_quote (B : Nat) (b : Bool) (w : World) (hb : Boxed w B 4 (.bool b)) :
    Calls Tryd.prog 69 #[.int .i32 34, .pointer (some ⟨B, 0, none⟩)] w fun e w' => e = .returned (.bool false) ∧ w.setCell ⟨B, 0, none⟩ (.bool (!b)) = w' := by
  have hc := hb.cell
  have hf := hb.frozen
  go_enter Tryd.func69, Tryd.ntmps69
  go_wp2
  go_ret
  exact ⟨rfl, rfl⟩
set_option maxHeartbeats 400000 in
theorem ends_other (B : Nat) (b : Bool) (r : Int) (w : World) (hb : Boxed w B 4 (.bool b)) (hr : (r == 34) = false) :
    Calls Tryd.prog 69 #[.int .i32 r, .pointer (some ⟨B, 0, none⟩)] w fun e w' => e = .returned (.bool (decide (r = 32) && !b)) ∧ w = w' := by
  have hc := hb.cell
  have hf := hb.frozen
  go_enter Tryd.func69, Tryd.ntmps69
  go_wp2
  all_goals (go_ret; exact ⟨ret_bool (by simp [*]), rfl⟩)
def ScanEnds (s : ByteArray) (b : Bool) (B : Nat) (w : World) (e : Ending) (w' : World) : Prop :=
  e = .returned (.int .i64 (scan b 0 (L s)).1) ∧ w.grownBy w' (some B) ∧ Boxed w' B 4 (.bool (scan b 0 (L s)).2)
set_option maxRecDepth 100000 in
set_option maxHeartbeats 1000000 in
theorem indexFunc_any (s : ByteArray) (b : Bool) (B : Nat) (w : World) (hb : Boxed w B 4 (.bool b)) :
    Calls Tryd.prog 89 #[.string s, .func (.func 69) #[] #[.pointer (some ⟨B, 0, none⟩)], .bool true] w (ScanEnds s b B w) := by
  have eg : ∀ args w, (callFunc 69 args).run Tryd.prog w = .ok (.enter 69 args) w := enters_of Tryd.func69 (by kernel_rfl) rfl
  have hBlt : B < w.heap.size := hb.lt
  go_enter Tryd.func89, Tryd.ntmps89
  go_wp2
  go_loopg [] s.size (fun gf wx => ∃ (pos : Nat) (c : Bool), wx.heap[w.heap.size]? = some (.stringIter s pos) ∧ w.grownBy wx (some B) ∧ Boxed wx B 4 (.bool c) ∧ scan c pos ((L s).drop pos) = scan b 0 (L s) ∧ s.size ≤ pos + gf)
  case atStart => exact ⟨0, b, World.iter_heap w s 0, only_below (World.grownBy.refl _ _) ((Below.refl _ w).alloc (Nat.le_refl _) _), hb.alloc _, rfl, by omega⟩
  case round =>
    obtain ⟨pos, c, hit, hon, hbx, hleft, hfu⟩ := hrel
    by_cases hps : pos < s.size
    · obtain ⟨g', rfl⟩ : ∃ g', gk = g' + 1 := ⟨gk - 1, by omega⟩
      have hnx : ∀ ty, (Instr.next (.pointer (some ⟨w.heap.size, 0, none⟩)) true ty).run Tryd.prog wr = _ := fun ty => Lib.run_next_any_at wr w.heap.size s pos ty hit hps
      have hwd := Lib.width_pos s pos
      have hit2 := Lib.iterAt_heap wr w.heap.size s pos (pos + (Utf8.decode s pos).2) hit
      have hkw := only_below hon (Lib.below_iterAt (Below.refl _ wr) (k := w.heap.size) (Nat.le_refl _) s (pos + (Utf8.decode s pos).2))
      have hbw : Boxed (wr.iterAt w.heap.size s (pos + (Utf8.decode s pos).2)) B 4 (.bool c) := (Lib.iterAt_other wr w.heap.size B s _ (by omega)).trans hbx
      by_cases hq : s[pos].toNat = 34
      · have hd := decode_low s pos hps (by omega)
        rw [hq] at hd
        rw [hd] at hnx hit2 hkw hbw
        dsimp only at hnx hit2 hkw hbw
        rw [scan_quote s c pos hps hq] at hleft
        obtain ⟨W, hWd⟩ : ∃ W, wr.iterAt w.heap.size s (pos + 1) = W := ⟨_, rfl⟩
        rw [hWd] at hnx hit2 hkw hbw
        have HL := Lib.hid hleft
        have cS := ends_quote B c W hbw
        clear hleft hd hWd hwd hit hon hbx
        go_wp2_with (go_at_fn 69; refine cS.mono ?_; rintro e W' ⟨rfl, rfl⟩)
        go_roundg g'
        case measure => omega
        case rel => exact ⟨pos + 1, !c, (Below.heap_setCell W ⟨B, 0, none⟩ _ w.heap.size (by simp; omega)).trans hit2, only_set hkw _, hbw.set _, HL.out, by omega⟩
      · by_cases hbl : s[pos].toNat = 32 ∧ c = false
        · obtain ⟨h32, rfl⟩ := hbl
          have hd := decode_low s pos hps (by omega)
          rw [h32] at hd
          rw [hd] at hnx hit2 hkw hbw
          dsimp only at hnx hit2 hkw hbw
          rw [scan_blank s pos hps h32] at hleft
          obtain ⟨W, hWd⟩ : ∃ W, wr.iterAt w.heap.size s (pos + 1) = W := ⟨_, rfl⟩
          rw [hWd] at hnx hit2 hkw hbw
          have HL := Lib.hid hleft
          have cS := ends_other B false 32 W hbw (by decide)
          clear hleft hd hWd hwd hit hon hbx
          go_wp2_with (go_at_fn 69; refine cS.mono ?_; rintro e W' ⟨rfl, rfl⟩)
          go_ret
          unfold ScanEnds
          rw [← HL.out]
          exact ⟨rfl, hkw, hbw⟩
        · obtain ⟨R, hR⟩ : ∃ R, (Utf8.decode s pos).1 = R := ⟨_, rfl⟩
          obtain ⟨K, hK⟩ : ∃ K, (Utf8.decode s pos).2 = K := ⟨_, rfl⟩
          have hkey : R ≠ 34 ∧ (R = 32 → c = true) ∧ scan c pos ((L s).drop pos) = scan c (pos + K) ((L s).drop (pos + K)) := by
            by_cases hlow : s[pos].toNat < 128
            · have hd := decode_low s pos hps hlow
              rw [hd] at hR hK
              dsimp only at hR hK
              subst hR; subst hK
              refine ⟨hq, fun e => ?_, scan_other s c pos hps hq ?_⟩
              · cases c
                · exact absurd ⟨e, rfl⟩ hbl
                · rfl
              · cases c
                · exact .inl fun e => hbl ⟨e, rfl⟩
                · exact .inr rfl
            · obtain ⟨h1, h2⟩ := decode_high s pos hps hlow
              rw [hR] at h1; rw [hK] at h2
              exact ⟨by omega, fun e => by omega, h2 c⟩
          obtain ⟨k1, k2, k3⟩ := hkey
          rw [hR, hK] at hnx
          rw [hK] at hit2 hkw hbw hwd
          rw [k3] at hleft
          obtain ⟨W, hWd⟩ : ∃ W, wr.iterAt w.heap.size s (pos + K) = W := ⟨_, rfl⟩
          rw [hWd] at hnx hit2 hkw hbw
          have HL := Lib.hid hleft
          have cS := ends_other B c (R : Int) W hbw (by rw [beq_eq_false_iff_ne]; omega)
          have hfalse : (decide ((R : Int) = 32) && !c) = false := by
            by_cases e : R = 32
            · rw [k2 e]; simp
            · rw [decide_eq_false (by omega)]; rfl
          rw [hfalse] at cS
          clear hleft hWd hit hon hbx k1 k2 k3 hR hK hfalse
          go_wp2_with (go_at_fn 69; refine cS.mono ?_; rintro e W' ⟨rfl, rfl⟩)
          go_roundg g'
          case measure => omega
          case rel => exact ⟨pos + K, c, hit2, hkw, hbw, HL.out, by omega⟩
    · have hnx : ∀ ty, (Instr.next (.pointer (some ⟨w.heap.size, 0, none⟩)) true ty).run Tryd.prog wr = _ := fun ty => Lib.run_next_end_at wr w.heap.size s pos ty hit hps
      rw [scan_end s c pos hps] at hleft
      have HL := Lib.hid hleft
      clear hleft
      go_wp2
      go_ret
      unfold ScanEnds
      rw [← HL.out]
      exact ⟨rfl, hon, hbx⟩
set_option maxHeartbeats 400000 in
theorem indexFunc_top (s : ByteArray) (b : Bool) (B : Nat) (w : World) (hb : Boxed w B 4 (.bool b)) :
    Calls Tryd.prog 71 #[.string s, .func (.func 69) #[] #[.pointer (some ⟨B, 0, none⟩)]] w (ScanEnds s b B w) := by
  go_enter Tryd.func71, Tryd.ntmps71
  go_wp2_with (go_at_call 89; refine (indexFunc_any _ _ _ _ hb).mono ?_; rintro e w' ⟨rfl, h1, h2⟩)
  go_ret
  exact ⟨rfl, h1, h2⟩
end Go.Proofs.YtoclgcneclbfiaaDoor
