/-
  RANGES OVER A FUNCTION IN A LOOP: the marks that they leave, one a round; how the function is left with them. No program in sight. CONTRACTS: cmp.Compare, cmp.Or; the order of events.
-/
import Derived.Test.YtppccacfdpkkgaaGreatDoorBlk
import Derived.RangeFuncWrites
import Derived.RangeFuncLeaves
import Derived.RangeFuncRecord
import Derived.Test.YtppccacfdpkkgaaGreatDoorKRow
import Derived.Test.YtppccacfdpkkgaaGreatDoorH
import Derived.Deep.QuietTactic
import Derived.BigQuiet
import Derived.Deep.RegionWith
import Derived.RegionTactic
import Derived.BigRegion
namespace Go.Proofs.YtppccacfdpkkgaaGreatDoor
open Go.RowKit
def marks (Ds : List Nat) : List Deferred := Ds.map fun D => { target := .collected D, args := #[] }
/-- The marks' blocks, all beyond B. -/
structure MarksOk (B : Nat) (Ds : List Nat) (W : World) : Prop where
  nodup : Ds.Nodup
  at' : ∀ D ∈ Ds, B ≤ D ∧ W.heap[D]? = some (.deferred (some []))
theorem MarksOk.lt {B : Nat} {Ds : List Nat} {W : World} (h : MarksOk B Ds W) {D : Nat} (hD : D ∈ Ds) : D < W.heap.size := (Array.getElem?_eq_some_iff.1 (h.at' D hD).2).1
theorem MarksOk.nil (B : Nat) (W : World) : MarksOk B [] W := ⟨List.nodup_nil, fun D h => by cases h⟩
theorem MarksOk.cons {B : Nat} {Ds : List Nat} {W : World} (h : MarksOk B Ds W) {D : Nat} (hD : D ∉ Ds) (hB : B ≤ D) (hK : W.heap[D]? = some (.deferred (some []))) : MarksOk B (D :: Ds) W :=
  ⟨List.nodup_cons.2 ⟨hD, h.nodup⟩, fun E hE => by
    rcases List.mem_cons.1 hE with rfl | hE
    · exact ⟨hB, hK⟩
    · exact h.at' E hE⟩
/-- What is no cells lies as it lay. -/
theorem MarksOk.keeps {B : Nat} {Ds : List Nat} {W W' : World} (h : MarksOk B Ds W) (hk : ∀ D, D ∈ Ds → W'.heap[D]? = W.heap[D]?) : MarksOk B Ds W' := ⟨h.nodup, fun D hD => ⟨(h.at' D hD).1, (hk D hD).trans (h.at' D hD).2⟩⟩
theorem MarksOk.grown {B : Nat} {Ds : List Nat} {W W' : World} {row : Option Nat} (h : MarksOk B Ds W) (hg : W.grownBy W' row) (hr : ∀ r, row = some r → ∃ cs t fr, W.heap[r]? = some (.cells cs t fr)) : MarksOk B Ds W' :=
  h.keeps fun D hD => hg.block D (h.lt hD) (fun e => by
    obtain ⟨cs, t, fr, hc⟩ := hr D e.symm
    rw [(h.at' D hD).2] at hc
    cases hc)
theorem MarksOk.below {B : Nat} {Ds : List Nat} {W W' : World} (h : MarksOk B Ds W) (hb : Below W.heap.size W W') : MarksOk B Ds W' := h.keeps fun D hD => hb.block D (h.lt hD)
/-- The world with the marks taken. -/
def cleared : World → List Nat → World
  | W, [] => W
  | W, D :: Ds => cleared (W.putObj D (.deferred none)) Ds
theorem cleared_block : ∀ (Ds : List Nat) (W : World) (k : Nat), k ∉ Ds → (cleared W Ds).heap[k]? = W.heap[k]?
  | [], _, _, _ => rfl
  | D :: Ds, W, k, h => by
    rw [List.mem_cons, not_or] at h
    rw [cleared, cleared_block Ds _ k h.2]
    exact World.putObj_heap_other (fun e => h.1 e)
theorem cleared_size : ∀ (Ds : List Nat) (W : World), (cleared W Ds).heap.size = W.heap.size
  | [], _ => rfl
  | D :: Ds, W => by rw [cleared, cleared_size Ds]; simp [World.putObj]
theorem cleared_blk {B : Nat} {Ds : List Nat} {W : World} (h : MarksOk B Ds W) {b : Nat} {t : TypeId} {cs : Array Value} (hb : Blk W b t cs) : Blk (cleared W Ds) b t cs := by
  have hn : b ∉ Ds := fun hm => by
    have h1 := (h.at' b hm).2
    rw [show W.heap[b]? = some (.cells cs t (0, 0)) from hb] at h1
    cases h1
  exact (cleared_block Ds W b hn).trans hb
variable {F : Fence} {n : Nat} {P : Program}
/-- A function is left with its marks: they are taken, one after the other. -/
theorem leaves_marks {fn : Func} {tmps : Array Value} {R : Ending → World → Prop} {B : Nat} : ∀ (Ds : List Nat) (W : World), MarksOk B Ds W → LeavesIn F n P fn tmps R [] .returning (cleared W Ds) → LeavesInM F n P fn tmps R (marks Ds) .returning W
  | [], W, _, h => h
  | D :: Ds, W, hm, h => by
    refine ⟨by simp, .inl ⟨D, _, rfl, run_takeDeferred (hm.at' D (by simp)).2, ?_⟩⟩
    obtain ⟨h1, h2⟩ := List.nodup_cons.1 hm.nodup
    exact leaves_marks Ds _ ⟨h2, fun E hE => ⟨(hm.at' E (by simp [hE])).1, (World.putObj_heap_other (fun e => h1 (by rw [← e]; exact hE))).trans (hm.at' E (by simp [hE])).2⟩⟩ h
def evC5 (x : Ev) : List Value := [.int .i64 x.1, .int .i64 x.2.1, .int .i64 x.2.2.1, .int .i64 x.2.2.2.1, .int .i64 x.2.2.2.2]
def cmpI (a b : Int) : Int := if a < b then -1 else if b < a then 1 else 0
def orI : List Int → Int
  | [] => 0
  | x :: l => if x = 0 then orI l else x
theorem orI_skip : ∀ {l : List Int} (k : Nat), (∀ x ∈ l.take k, x = 0) → orI l = orI (l.drop k)
  | [], k, _ => by rw [List.drop_nil]
  | x :: l, 0, _ => rfl
  | x :: l, k + 1, h => by
    rw [orI, if_pos (h x (by simp)), List.drop_succ_cons]
    exact orI_skip k fun y hy => h y (by simp [hy])
theorem orI_at {l : List Int} {k : Nat} (hk : k < l.length) (hz : ∀ x ∈ l.take k, x = 0) (h : l[k] ≠ 0) : orI l = l[k] := by
  rw [orI_skip k hz, List.drop_eq_getElem_cons hk, orI, if_neg h]
theorem orI_no {l : List Int} (hz : ∀ x ∈ l.take l.length, x = 0) : orI l = 0 := by
  rw [orI_skip l.length hz, List.drop_length]; rfl
theorem zeros_next {l : List Int} {k : Nat} (hk : k < l.length) (hz : ∀ x ∈ l.take k, x = 0) (h : l[k] = 0) : ∀ x ∈ l.take (k + 1), x = 0 := by
  intro x hx
  rw [List.take_succ_eq_append_getElem hk, List.mem_append, List.mem_singleton] at hx
  rcases hx with hx | rfl
  · exact hz x hx
  · exact h
set_option maxHeartbeats 400000 in
theorem nan_any (x : Int) (W : World) : Calls Tryz.prog 84 #[.int .i64 x] W fun e w' => e = .returned (.bool false) ∧ w' = W := by
  have hx : (x == x) = true := by simp
  go_enter Tryz.func84, Tryz.ntmps84
  go_wp2
  go_ret
  exact ⟨rfl, rfl⟩
set_option maxHeartbeats 800000 in
theorem compare_any (a b : Int) (W : World) : Calls Tryz.prog 49 #[.int .i64 a, .int .i64 b] W fun e w' => e = .returned (.int .i64 (cmpI a b)) ∧ w' = W := by
  rcases Int.lt_trichotomy a b with h | h | h
  · have HC := Lib.hid (show cmpI a b = -1 from if_pos h)
    go_enter Tryz.func49, Tryz.ntmps49
    go_wp2_with (go_at_call 84; refine (nan_any _ _).mono ?_; rintro e w' ⟨rfl, rfl⟩)
    go_ret
    exact ⟨by rw [HC.out]; rfl, rfl⟩
  · have HC := Lib.hid (show cmpI a b = 0 from by unfold cmpI; rw [if_neg (by omega), if_neg (by omega)])
    have h1 : ¬ a < b := by omega
    have h2 : ¬ b < a := by omega
    go_enter Tryz.func49, Tryz.ntmps49
    go_wp2_with (go_at_call 84; refine (nan_any _ _).mono ?_; rintro e w' ⟨rfl, rfl⟩)
    go_ret
    exact ⟨by rw [HC.out]; rfl, rfl⟩
  · have HC := Lib.hid (show cmpI a b = 1 from by unfold cmpI; rw [if_neg (by omega), if_pos h])
    have h1 : ¬ a < b := by omega
    go_enter Tryz.func49, Tryz.ntmps49
    go_wp2_with (go_at_call 84; refine (nan_any _ _).mono ?_; rintro e w' ⟨rfl, rfl⟩)
    go_ret
    exact ⟨by rw [HC.out]; rfl, rfl⟩
set_option maxHeartbeats 1600000 in
theorem or_any (l : List Int) (v : Value) (w : World) (hl : l.length ≤ 1000000) (hv : ARd w v 1 (l.map iC)) :
    Calls Tryz.prog 48 #[v] w fun e w' => e = .returned (.int .i64 (orI l)) ∧ w' = w := by
  obtain ⟨a, c, ev⟩ := hv.intForm
  subst ev
  go_enter Tryz.func48, Tryz.ntmps48
  go_wp2
  go_loopw [8] (fun y wr => ∃ k : Nat, k ≤ l.length ∧ y = .int .i64 k ∧ RowKit.Hid (∀ x ∈ l.take k, x = 0) ∧ wr = w) (fun y _ => l.length - (intOf y).toNat)
  case atStart => exact ⟨0, Nat.zero_le _, rfl, Lib.hid (by simp), rfl⟩
  obtain ⟨k, hk, rfl, hN, rfl⟩ := hrel
  by_cases hlt : k < l.length
  · obtain ⟨b, o, c', ev', hbl, q0⟩ := hv.intAt k hlt
    cases ev'
    have hk2 : (k : Int) < (l.length : Int) := by omega
    by_cases he : l[k] = 0
    · have HE := Lib.hid (zeros_next hlt hN.out he)
      rw [he] at q0
      clear he
      go_wp2
      go_roundw
      case rel => exact ⟨k + 1, by omega, by go_num, HE, trivial⟩
      case measure => simp [intOf]; omega
    · have he2 : (l[k] == 0) = false := by simpa using he
      have HE := Lib.hid (orI_at hlt hN.out he)
      clear he
      go_wp2
      go_ret
      exact ⟨by rw [HE.out]; rfl, rfl⟩
  · have hk2 : ¬ ((k : Int) < (l.length : Int)) := by omega
    have hke : k = l.length := by omega
    have HE := Lib.hid (orI_no (l := l) (by rw [← hke]; exact hN.out))
    clear hke
    go_wp2
    go_ret
    exact ⟨by rw [HE.out]; rfl, rfl⟩
end Go.Proofs.YtppccacfdpkkgaaGreatDoor
