/-
  CONTRACTS: first, over each kind of elements, at the checker's methods.
-/
import Derived.Test.YtkddeliifadcoaaDoorC2
import Derived.Test.YtkddeliifadcoaaDoorSpL
namespace Go.Proofs.YtkddeliifadcoaaDoor
open Go.RowKit
/-- What first says. -/
def fstV (E : Nat → Int) (n : Nat) : Value := match fst0 E n with
  | some i => .tuple #[.int .i64 i, .int .i64 (E i)]
  | none => .tuple #[.int .i64 0, .int .i64 0]
theorem fstV_some {E : Nat → Int} {n i : Nat} (h1 : i < n) (h2 : E i ≠ 0) (h3 : ∀ j, j < i → E j = 0) : fstV E n = .tuple #[.int .i64 i, .int .i64 (E i)] := by unfold fstV; rw [fst0_some h1 h2 h3]
theorem fstV_none {E : Nat → Int} {n : Nat} (h : ∀ j, j < n → E j = 0) : fstV E n = .tuple #[.int .i64 0, .int .i64 0] := by unfold fstV; rw [fst0_none.2 h]
/-- How first ends: Wk holds in any case, Inv behind all elements if none has an error. -/
def FstEnds (E : Nat → Int) (n : Nat) (Inv : Nat → World → Prop) (Wk : World → Prop) (e : Ending) (w' : World) : Prop := e = .returned (fstV E n) ∧ Wk w' ∧ (fst0 E n = none → Inv n w')
theorem fstEnds_some {E : Nat → Int} {n i : Nat} {Inv : Nat → World → Prop} {Wk : World → Prop} {w' : World} {v : Value} (h1 : i < n) (h2 : E i ≠ 0) (h3 : ∀ j, j < i → E j = 0) (hv : v = .tuple #[.int .i64 i, .int .i64 (E i)]) (hw : Wk w') : FstEnds E n Inv Wk (.returned v) w' :=
  ⟨by rw [fstV_some h1 h2 h3, hv], hw, fun h => absurd (h.symm.trans (fst0_some h1 h2 h3)) (by simp)⟩
theorem fstEnds_none {E : Nat → Int} {n : Nat} {Inv : Nat → World → Prop} {Wk : World → Prop} {w' : World} {v : Value} (h : ∀ j, j < n → E j = 0) (hv : v = .tuple #[.int .i64 0, .int .i64 0]) (hw : Wk w') (hi : Inv n w') : FstEnds E n Inv Wk (.returned v) w' :=
  ⟨by rw [fstV_none h, hv], hw, fun _ => hi⟩
set_option maxRecDepth 100000 in
set_option maxHeartbeats 3200000 in
theorem firstD_any (n : Nat) (hn : n ≤ 1000) (v : Value) (E : Nat → Int) (Bc : Nat) (Inv : Nat → World → Prop) (Wk : World → Prop) (w : World)
    (hIB : ∀ k W W', Inv k W → Below W.heap.size W W' → Inv k W') (hWB : ∀ W W', Wk W → Below W.heap.size W W' → Wk W') (hIW : ∀ k W, Inv k W → Wk W)
    (hv : ∃ a c, v = .slice a n c)
    (hrd : ∀ k, k < n → ∃ (x : Dv), ∀ W, Inv k W → (∃ b o c, v = .slice (some ⟨b, o, none⟩) n c ∧ b < W.heap.size ∧ W.cell? ⟨b, o + k * 3, none⟩ = some (.string x.name) ∧ W.cell? ⟨b, o + k * 3 + 1, none⟩ = some (.int .i64 x.lo) ∧ W.cell? ⟨b, o + k * 3 + 2, none⟩ = some (.int .i64 x.hi)) ∧
      Calls Tryd.prog 21 #[.pointer (some ⟨Bc, 0, none⟩), .agg #[.string x.name, .int .i64 x.lo, .int .i64 x.hi]] W fun e w' => e = .returned (.int .i64 (E k)) ∧ Wk w' ∧ (E k = 0 → Inv (k + 1) w'))
    (h0 : Inv 0 w) :
    Calls Tryd.prog 20 #[v, .func (.func 21) #[.pointer (some ⟨Bc, 0, none⟩)] #[]] w (FstEnds E n Inv Wk) := by
  have eg : ∀ args w, (callFunc 21 args).run Tryd.prog w = .ok (.enter 21 args) w := enters_of Tryd.func21 (by kernel_rfl) rfl
  have HR := Lib.hid hrd
  have HIB := Lib.hid hIB
  have HIW := Lib.hid hIW
  obtain ⟨a, c, rfl⟩ := hv
  clear hrd hIB hIW
  have HWB := Lib.hid hWB
  clear hWB
  go_enter Tryd.func20, Tryd.ntmps20
  go_wp2
  go_loopw [11] (fun i wr => ∃ k : Nat, k ≤ n ∧ i = .int .i64 k ∧ RowKit.Hid (∀ j, j < k → E j = 0) ∧ RowKit.Hid (Inv k wr)) (fun i _ => n - (intOf i).toNat)
  case atStart => exact ⟨0, Nat.zero_le _, rfl, Lib.hid (fun j h => absurd h (Nat.not_lt_zero j)), Lib.hid h0⟩
  case round =>
    obtain ⟨k, hk, rfl, hE, hI⟩ := hrel
    by_cases hlt : k < n
    · obtain ⟨x, hx⟩ := HR.out k hlt
      obtain ⟨⟨b, o, c', hvv, hbl, r0, r1, r2⟩, _⟩ := hx wr hI.out
      simp only [Value.slice.injEq] at hvv
      obtain ⟨rfl, _, rfl⟩ := hvv
      have HX := Lib.hid hx
      clear hx
      have hi1 : (0 : Int) ≤ (k : Int) := Int.natCast_nonneg _
      have hi2 : (k : Int) < (n : Int) := by omega
      have hb0 : Below wr.heap.size wr (wr.alloc (.cells #[.string x.name, .int .i64 x.lo, .int .i64 x.hi] 54)) := (Below.refl _ _).alloc (Nat.le_refl _) _
      have HC := Lib.hid (HX.out _ (HIB.out k _ _ hI.out hb0)).2
      obtain ⟨ek, hek⟩ : ∃ ek, ek = E k := ⟨_, rfl⟩
      rw [← hek] at HC
      have HK := Lib.hid hek
      clear hek
      by_cases hz : ek = 0
      · subst hz
        go_wp2_with (go_at_fn 21; refine (HC.out).mono ?_; rintro e w2 ⟨rfl, hw2, hi2'⟩; have HN := Lib.hid (hi2' rfl); clear hi2')
        go_roundw
        case rel => exact ⟨k + 1, by omega, by go_num, Lib.hid (fun j hj => by rcases Nat.lt_succ_iff_lt_or_eq.1 hj with h | h; exact hE.out j h; rw [h]; exact HK.out.symm), HN⟩
        case measure => simp [intOf]; omega
      · have b1 : (ek == 0) = false := beq_eq_false_iff_ne.2 hz
        have HZ := Lib.hid hz
        clear hz
        go_wp2_with (go_at_fn 21; refine (HC.out).mono ?_; rintro e w2 ⟨rfl, hw2, _⟩; have HW := Lib.hid hw2; clear hw2)
        go_ret2
        exact fstEnds_some hlt (by rw [← HK.out]; exact HZ.out) hE.out (by rw [← HK.out]; rfl) HW.out
    · have hke : k = n := by omega
      subst hke
      go_wp2
      go_ret2
      exact fstEnds_none hE.out rfl (HIW.out _ _ hI.out) hI.out
set_option maxRecDepth 100000 in
set_option maxHeartbeats 3200000 in
theorem firstR_any (n : Nat) (hn : n ≤ 1000) (v : Value) (E : Nat → Int) (Bc : Nat) (Inv : Nat → World → Prop) (Wk : World → Prop) (w : World)
    (hIB : ∀ k W W', Inv k W → Below W.heap.size W W' → Inv k W') (hWB : ∀ W W', Wk W → Below W.heap.size W W' → Wk W') (hIW : ∀ k W, Inv k W → Wk W)
    (hv : ∃ a c, v = .slice a n c)
    (hrd : ∀ k, k < n → ∃ (x : Rk), ∀ W, Inv k W → (∃ b o c, v = .slice (some ⟨b, o, none⟩) n c ∧ b < W.heap.size ∧ W.cell? ⟨b, o + k * 6, none⟩ = some (.string x.name) ∧ W.cell? ⟨b, o + k * 6 + 1, none⟩ = some (.int .i64 x.kind) ∧ W.cell? ⟨b, o + k * 6 + 2, none⟩ = some (.int .i64 x.num) ∧ W.cell? ⟨b, o + k * 6 + 3, none⟩ = some (.int .i64 x.den) ∧ W.cell? ⟨b, o + k * 6 + 4, none⟩ = some (.int .i64 x.low) ∧ W.cell? ⟨b, o + k * 6 + 5, none⟩ = some (.int .i64 x.cnt)) ∧
      Calls Tryd.prog 23 #[.pointer (some ⟨Bc, 0, none⟩), .agg #[.string x.name, .int .i64 x.kind, .int .i64 x.num, .int .i64 x.den, .int .i64 x.low, .int .i64 x.cnt]] W fun e w' => e = .returned (.int .i64 (E k)) ∧ Wk w' ∧ (E k = 0 → Inv (k + 1) w'))
    (h0 : Inv 0 w) :
    Calls Tryd.prog 22 #[v, .func (.func 23) #[.pointer (some ⟨Bc, 0, none⟩)] #[]] w (FstEnds E n Inv Wk) := by
  have eg : ∀ args w, (callFunc 23 args).run Tryd.prog w = .ok (.enter 23 args) w := enters_of Tryd.func23 (by kernel_rfl) rfl
  have HR := Lib.hid hrd
  have HIB := Lib.hid hIB
  have HIW := Lib.hid hIW
  obtain ⟨a, c, rfl⟩ := hv
  clear hrd hIB hIW
  have HWB := Lib.hid hWB
  clear hWB
  go_enter Tryd.func22, Tryd.ntmps22
  go_wp2
  go_loopw [11] (fun i wr => ∃ k : Nat, k ≤ n ∧ i = .int .i64 k ∧ RowKit.Hid (∀ j, j < k → E j = 0) ∧ RowKit.Hid (Inv k wr)) (fun i _ => n - (intOf i).toNat)
  case atStart => exact ⟨0, Nat.zero_le _, rfl, Lib.hid (fun j h => absurd h (Nat.not_lt_zero j)), Lib.hid h0⟩
  case round =>
    obtain ⟨k, hk, rfl, hE, hI⟩ := hrel
    by_cases hlt : k < n
    · obtain ⟨x, hx⟩ := HR.out k hlt
      obtain ⟨⟨b, o, c', hvv, hbl, r0, r1, r2, r3, r4, r5⟩, _⟩ := hx wr hI.out
      simp only [Value.slice.injEq] at hvv
      obtain ⟨rfl, _, rfl⟩ := hvv
      have HX := Lib.hid hx
      clear hx
      have hi1 : (0 : Int) ≤ (k : Int) := Int.natCast_nonneg _
      have hi2 : (k : Int) < (n : Int) := by omega
      have hb0 : Below wr.heap.size wr (wr.alloc (.cells #[.string x.name, .int .i64 x.kind, .int .i64 x.num, .int .i64 x.den, .int .i64 x.low, .int .i64 x.cnt] 58)) := (Below.refl _ _).alloc (Nat.le_refl _) _
      have HC := Lib.hid (HX.out _ (HIB.out k _ _ hI.out hb0)).2
      obtain ⟨ek, hek⟩ : ∃ ek, ek = E k := ⟨_, rfl⟩
      rw [← hek] at HC
      have HK := Lib.hid hek
      clear hek
      by_cases hz : ek = 0
      · subst hz
        go_wp2_with (go_at_fn 23; refine (HC.out).mono ?_; rintro e w2 ⟨rfl, hw2, hi2'⟩; have HN := Lib.hid (hi2' rfl); clear hi2')
        go_roundw
        case rel => exact ⟨k + 1, by omega, by go_num, Lib.hid (fun j hj => by rcases Nat.lt_succ_iff_lt_or_eq.1 hj with h | h; exact hE.out j h; rw [h]; exact HK.out.symm), HN⟩
        case measure => simp [intOf]; omega
      · have b1 : (ek == 0) = false := beq_eq_false_iff_ne.2 hz
        have HZ := Lib.hid hz
        clear hz
        go_wp2_with (go_at_fn 23; refine (HC.out).mono ?_; rintro e w2 ⟨rfl, hw2, _⟩; have HW := Lib.hid hw2; clear hw2)
        go_ret2
        exact fstEnds_some hlt (by rw [← HK.out]; exact HZ.out) hE.out (by rw [← HK.out]; rfl) HW.out
    · have hke : k = n := by omega
      subst hke
      go_wp2
      go_ret2
      exact fstEnds_none hE.out rfl (HIW.out _ _ hI.out) hI.out
set_option maxRecDepth 100000 in
set_option maxHeartbeats 3200000 in
theorem firstC_any (n : Nat) (hn : n ≤ 1000) (v : Value) (E : Nat → Int) (Bc : Nat) (Inv : Nat → World → Prop) (Wk : World → Prop) (w : World)
    (hIB : ∀ k W W', Inv k W → Below W.heap.size W W' → Inv k W') (hWB : ∀ W W', Wk W → Below W.heap.size W W' → Wk W') (hIW : ∀ k W, Inv k W → Wk W)
    (hv : ∃ a c, v = .slice a n c)
    (hrd : ∀ k, k < n → ∃ (x : Cp), ∀ W, Inv k W → (∃ b o c, v = .slice (some ⟨b, o, none⟩) n c ∧ b < W.heap.size ∧ W.cell? ⟨b, o + k * 6, none⟩ = some (.string x.name) ∧ W.cell? ⟨b, o + k * 6 + 1, none⟩ = some (.int .i64 x.frm) ∧ W.cell? ⟨b, o + k * 6 + 2, none⟩ = some (.int .i64 x.to) ∧ W.cell? ⟨b, o + k * 6 + 3, none⟩ = some (.int .i64 x.shift) ∧ W.cell? ⟨b, o + k * 6 + 4, none⟩ = some (.int .i64 x.only) ∧ W.cell? ⟨b, o + k * 6 + 5, none⟩ = some (.bool x.thr)) ∧
      Calls Tryd.prog 29 #[.pointer (some ⟨Bc, 0, none⟩), .agg #[.string x.name, .int .i64 x.frm, .int .i64 x.to, .int .i64 x.shift, .int .i64 x.only, .bool x.thr]] W fun e w' => e = .returned (.int .i64 (E k)) ∧ Wk w' ∧ (E k = 0 → Inv (k + 1) w'))
    (h0 : Inv 0 w) :
    Calls Tryd.prog 28 #[v, .func (.func 29) #[.pointer (some ⟨Bc, 0, none⟩)] #[]] w (FstEnds E n Inv Wk) := by
  have eg : ∀ args w, (callFunc 29 args).run Tryd.prog w = .ok (.enter 29 args) w := enters_of Tryd.func29 (by kernel_rfl) rfl
  have HR := Lib.hid hrd
  have HIB := Lib.hid hIB
  have HIW := Lib.hid hIW
  obtain ⟨a, c, rfl⟩ := hv
  clear hrd hIB hIW
  have HWB := Lib.hid hWB
  clear hWB
  go_enter Tryd.func28, Tryd.ntmps28
  go_wp2
  go_loopw [11] (fun i wr => ∃ k : Nat, k ≤ n ∧ i = .int .i64 k ∧ RowKit.Hid (∀ j, j < k → E j = 0) ∧ RowKit.Hid (Inv k wr)) (fun i _ => n - (intOf i).toNat)
  case atStart => exact ⟨0, Nat.zero_le _, rfl, Lib.hid (fun j h => absurd h (Nat.not_lt_zero j)), Lib.hid h0⟩
  case round =>
    obtain ⟨k, hk, rfl, hE, hI⟩ := hrel
    by_cases hlt : k < n
    · obtain ⟨x, hx⟩ := HR.out k hlt
      obtain ⟨⟨b, o, c', hvv, hbl, r0, r1, r2, r3, r4, r5⟩, _⟩ := hx wr hI.out
      simp only [Value.slice.injEq] at hvv
      obtain ⟨rfl, _, rfl⟩ := hvv
      have HX := Lib.hid hx
      clear hx
      have hi1 : (0 : Int) ≤ (k : Int) := Int.natCast_nonneg _
      have hi2 : (k : Int) < (n : Int) := by omega
      have hb0 : Below wr.heap.size wr (wr.alloc (.cells #[.string x.name, .int .i64 x.frm, .int .i64 x.to, .int .i64 x.shift, .int .i64 x.only, .bool x.thr] 63)) := (Below.refl _ _).alloc (Nat.le_refl _) _
      have HC := Lib.hid (HX.out _ (HIB.out k _ _ hI.out hb0)).2
      obtain ⟨ek, hek⟩ : ∃ ek, ek = E k := ⟨_, rfl⟩
      rw [← hek] at HC
      have HK := Lib.hid hek
      clear hek
      by_cases hz : ek = 0
      · subst hz
        go_wp2_with (go_at_fn 29; refine (HC.out).mono ?_; rintro e w2 ⟨rfl, hw2, hi2'⟩; have HN := Lib.hid (hi2' rfl); clear hi2')
        go_roundw
        case rel => exact ⟨k + 1, by omega, by go_num, Lib.hid (fun j hj => by rcases Nat.lt_succ_iff_lt_or_eq.1 hj with h | h; exact hE.out j h; rw [h]; exact HK.out.symm), HN⟩
        case measure => simp [intOf]; omega
      · have b1 : (ek == 0) = false := beq_eq_false_iff_ne.2 hz
        have HZ := Lib.hid hz
        clear hz
        go_wp2_with (go_at_fn 29; refine (HC.out).mono ?_; rintro e w2 ⟨rfl, hw2, _⟩; have HW := Lib.hid hw2; clear hw2)
        go_ret2
        exact fstEnds_some hlt (by rw [← HK.out]; exact HZ.out) hE.out (by rw [← HK.out]; rfl) HW.out
    · have hke : k = n := by omega
      subst hke
      go_wp2
      go_ret2
      exact fstEnds_none hE.out rfl (HIW.out _ _ hI.out) hI.out
set_option maxRecDepth 100000 in
set_option maxHeartbeats 3200000 in
theorem firstP_any (n : Nat) (hn : n ≤ 1000) (v : Value) (E : Nat → Int) (p4 p1 p10 : Nat) (Inv : Nat → World → Prop) (Wk : World → Prop) (w : World)
    (hIB : ∀ k W W', Inv k W → Below W.heap.size W W' → Inv k W') (hWB : ∀ W W', Wk W → Below W.heap.size W W' → Wk W') (hIW : ∀ k W, Inv k W → Wk W)
    (hv : ∃ a c, v = .slice a n c)
    (hrd : ∀ k, k < n → ∃ (x : Pt), ∀ W, Inv k W → (∃ b o c, v = .slice (some ⟨b, o, none⟩) n c ∧ b < W.heap.size ∧ W.cell? ⟨b, o + k * 4, none⟩ = some (.int .i64 x.rank) ∧ W.cell? ⟨b, o + k * 4 + 1, none⟩ = some (.int .i64 x.shift) ∧ W.cell? ⟨b, o + k * 4 + 2, none⟩ = some (.int .i64 x.lo) ∧ W.cell? ⟨b, o + k * 4 + 3, none⟩ = some (.int .i64 x.hi)) ∧
      Calls Tryd.prog 25 #[.agg #[.int .i64 x.rank, .int .i64 x.shift, .int .i64 x.lo, .int .i64 x.hi], .pointer (some ⟨p4, 0, none⟩), .pointer (some ⟨p1, 0, none⟩), .pointer (some ⟨p10, 0, none⟩)] W fun e w' => e = .returned (.int .i64 (E k)) ∧ Wk w' ∧ (E k = 0 → Inv (k + 1) w'))
    (h0 : Inv 0 w) :
    Calls Tryd.prog 27 #[v, .func (.func 25) #[] #[.pointer (some ⟨p4, 0, none⟩), .pointer (some ⟨p1, 0, none⟩), .pointer (some ⟨p10, 0, none⟩)]] w (FstEnds E n Inv Wk) := by
  have eg : ∀ args w, (callFunc 25 args).run Tryd.prog w = .ok (.enter 25 args) w := enters_of Tryd.func25 (by kernel_rfl) rfl
  have HR := Lib.hid hrd
  have HIB := Lib.hid hIB
  have HIW := Lib.hid hIW
  obtain ⟨a, c, rfl⟩ := hv
  clear hrd hIB hIW
  have HWB := Lib.hid hWB
  clear hWB
  go_enter Tryd.func27, Tryd.ntmps27
  go_wp2
  go_loopw [11] (fun i wr => ∃ k : Nat, k ≤ n ∧ i = .int .i64 k ∧ RowKit.Hid (∀ j, j < k → E j = 0) ∧ RowKit.Hid (Inv k wr)) (fun i _ => n - (intOf i).toNat)
  case atStart => exact ⟨0, Nat.zero_le _, rfl, Lib.hid (fun j h => absurd h (Nat.not_lt_zero j)), Lib.hid h0⟩
  case round =>
    obtain ⟨k, hk, rfl, hE, hI⟩ := hrel
    by_cases hlt : k < n
    · obtain ⟨x, hx⟩ := HR.out k hlt
      obtain ⟨⟨b, o, c', hvv, hbl, r0, r1, r2, r3⟩, _⟩ := hx wr hI.out
      simp only [Value.slice.injEq] at hvv
      obtain ⟨rfl, _, rfl⟩ := hvv
      have HX := Lib.hid hx
      clear hx
      have hi1 : (0 : Int) ≤ (k : Int) := Int.natCast_nonneg _
      have hi2 : (k : Int) < (n : Int) := by omega
      have hb0 : Below wr.heap.size wr (wr.alloc (.cells #[.int .i64 x.rank, .int .i64 x.shift, .int .i64 x.lo, .int .i64 x.hi] 75)) := (Below.refl _ _).alloc (Nat.le_refl _) _
      have HC := Lib.hid (HX.out _ (HIB.out k _ _ hI.out hb0)).2
      obtain ⟨ek, hek⟩ : ∃ ek, ek = E k := ⟨_, rfl⟩
      rw [← hek] at HC
      have HK := Lib.hid hek
      clear hek
      by_cases hz : ek = 0
      · subst hz
        go_wp2_with (go_at_fn 25; refine (HC.out).mono ?_; rintro e w2 ⟨rfl, hw2, hi2'⟩; have HN := Lib.hid (hi2' rfl); clear hi2')
        go_roundw
        case rel => exact ⟨k + 1, by omega, by go_num, Lib.hid (fun j hj => by rcases Nat.lt_succ_iff_lt_or_eq.1 hj with h | h; exact hE.out j h; rw [h]; exact HK.out.symm), HN⟩
        case measure => simp [intOf]; omega
      · have b1 : (ek == 0) = false := beq_eq_false_iff_ne.2 hz
        have HZ := Lib.hid hz
        clear hz
        go_wp2_with (go_at_fn 25; refine (HC.out).mono ?_; rintro e w2 ⟨rfl, hw2, _⟩; have HW := Lib.hid hw2; clear hw2)
        go_ret2
        exact fstEnds_some hlt (by rw [← HK.out]; exact HZ.out) hE.out (by rw [← HK.out]; rfl) HW.out
    · have hke : k = n := by omega
      subst hke
      go_wp2
      go_ret2
      exact fstEnds_none hE.out rfl (HIW.out _ _ hI.out) hI.out
end Go.Proofs.YtkddeliifadcoaaDoor
