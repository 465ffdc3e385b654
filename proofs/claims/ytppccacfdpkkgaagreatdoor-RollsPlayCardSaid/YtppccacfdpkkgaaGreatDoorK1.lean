/-
  CONTRACTS: a row's holes: has, put. CONTRACTS: a row's holes: put.
-/
import Derived.Test.YtppccacfdpkkgaaGreatDoorRows
import Derived.Test.YtppccacfdpkkgaaGreatDoorBlk
import Derived.Test.YtppccacfdpkkgaaGreatDoorH
import Derived.WalkSpells
import Derived.Deep.QuietTactic
import Derived.BigQuiet
import Derived.Deep.RegionLaw
namespace Go.Proofs.YtppccacfdpkkgaaGreatDoor
open Go.RowKit
/-- A row as a value. -/
def rwV (q : Rw) : Value := .agg #[.int .u64 q.1, .int .u64 q.2]
def hasB (q : Rw) (t : Int) : Bool := decide (0 ≤ t ∧ t < 128) && hole q t.toNat
theorem hasB_at {q : Rw} {t : Nat} (h : t < 128) : hasB q t = hole q t := by
  unfold hasB
  rw [decide_eq_true (by omega), Bool.true_and, Int.toNat_natCast]
theorem hasB_not {q : Rw} {t : Int} (h : ¬ (0 ≤ t ∧ t < 128)) : hasB q t = false := by
  unfold hasB
  rw [decide_eq_false h, Bool.false_and]
theorem bit_and {a : Nat} (ha : a < 2 ^ 64) (t : Nat) : (bits .and .u64 ((a : Int) / 2 ^ t) 1 == 1) = a.testBit t := by
  have e : ((a : Int) / 2 ^ t) = ((a / 2 ^ t : Nat) : Int) := by push_cast; rfl
  have h1 : a / 2 ^ t < 2 ^ 64 := Nat.lt_of_le_of_lt (Nat.div_le_self _ _) ha
  have h2 := word_and (a := a / 2 ^ t) (b := 1) h1 (by decide)
  rw [e]
  rw [show ((1 : Nat) : Int) = 1 from rfl] at h2
  rw [h2, Nat.and_one_is_mod, Nat.testBit_eq_decide_div_mod_eq]
  rw [Bool.eq_iff_iff]
  simp only [beq_iff_eq, decide_eq_true_eq]
  omega
theorem ret_b {a b : Bool} (h : a = b) : Ending.returned (.bool a) = .returned (.bool b) := by rw [h]
set_option maxRecDepth 100000 in
theorem has_lo (a b : Nat) (ha : a < 2 ^ 64) (t : Nat) (ht : t < 64) (w : World) :
    Calls Tryz.prog 64 #[.agg #[.int .u64 a, .int .u64 b], .int .i64 t] w fun e w' => e = .returned (.bool (a.testBit t)) ∧ Below w.heap.size w w' := by
  have hd : ((t : Int) / 64) = 0 := by omega
  have hm : ((t : Int) % 64) = t := by omega
  have HA := Lib.hid ha
  clear ha
  go_enter Tryz.func64, Tryz.ntmps64
  go_wp2
  go_ret
  exact ⟨ret_b (bit_and HA.out t), (Below.refl _ _).alloc (Nat.le_refl _) _⟩
set_option maxRecDepth 100000 in
theorem has_hi (a b : Nat) (hb : b < 2 ^ 64) (t u : Nat) (h1 : 64 ≤ t) (ht : t < 128) (hu : u = t - 64) (w : World) :
    Calls Tryz.prog 64 #[.agg #[.int .u64 a, .int .u64 b], .int .i64 t] w fun e w' => e = .returned (.bool (b.testBit u)) ∧ Below w.heap.size w w' := by
  have hd : ((t : Int) / 64) = 1 := by omega
  have hm : ((t : Int) % 64) = u := by omega
  have HA := Lib.hid hb
  clear hb hu
  go_enter Tryz.func64, Tryz.ntmps64
  go_wp2
  go_ret
  exact ⟨ret_b (bit_and HA.out u), (Below.refl _ _).alloc (Nat.le_refl _) _⟩
set_option maxRecDepth 100000 in
theorem has_no (a b : Nat) (t : Int) (h : ¬ (0 ≤ t ∧ t < 128)) (w : World) :
    Calls Tryz.prog 64 #[.agg #[.int .u64 a, .int .u64 b], .int .i64 t] w fun e w' => e = .returned (.bool false) ∧ Below w.heap.size w w' := by
  by_cases h0 : 0 ≤ t
  · have h1 : 128 ≤ t := by omega
    have h2 : decide (t < 128) = false := by rw [decide_eq_false_iff_not]; omega
    clear h
    go_enter Tryz.func64, Tryz.ntmps64
    go_wp2
    go_ret
    exact ⟨rfl, (Below.refl _ _).alloc (Nat.le_refl _) _⟩
  · have h1 : t < 0 := by omega
    have h2 : decide (0 ≤ t) = false := by rw [decide_eq_false_iff_not]; omega
    clear h
    go_enter Tryz.func64, Tryz.ntmps64
    go_wp2
    go_ret
    exact ⟨rfl, (Below.refl _ _).alloc (Nat.le_refl _) _⟩
theorem has_any (q : Rw) (hq : RwOk q) (t : Int) (b : Bool) (hb : hasB q t = b) (w : World) :
    Calls Tryz.prog 64 #[.agg #[.int .u64 q.1, .int .u64 q.2], .int .i64 t] w fun e w' => e = .returned (.bool b) ∧ Below w.heap.size w w' := by
  by_cases h : 0 ≤ t ∧ t < 128
  · obtain ⟨n, rfl⟩ := Int.eq_ofNat_of_zero_le h.1
    have hn : n < 128 := by omega
    rw [hasB_at hn] at hb
    unfold hole at hb
    by_cases h1 : n < 64
    · rw [if_pos h1] at hb
      rw [← hb]
      exact has_lo q.1 q.2 hq.lo n h1 w
    · rw [if_neg h1] at hb
      rw [← hb]
      exact has_hi q.1 q.2 hq.hi n (n - 64) (by omega) hn rfl w
  · rw [hasB_not h] at hb
    rw [← hb]
    exact has_no q.1 q.2 t h w
theorem pow_wrap {s : Nat} (h : s < 64) : IntKind.u64.wrap (2 ^ s : Int) = ((2 ^ s : Nat) : Int) := by
  have := word_wrap (pow_word h)
  rw [← this]
  push_cast
  rfl
theorem clr_bits {a s : Nat} (ha : a < 2 ^ 64) (h : s < 64) : bits .andNot .u64 (a : Int) (IntKind.u64.wrap (2 ^ s : Int)) = ((wclr a (2 ^ s) : Nat) : Int) := by
  rw [pow_wrap h]
  exact word_clr ha (pow_word h)
theorem or_bits {a s : Nat} (ha : a < 2 ^ 64) (h : s < 64) : bits .or .u64 (a : Int) (IntKind.u64.wrap (2 ^ s : Int)) = ((a ||| 2 ^ s : Nat) : Int) := by
  rw [pow_wrap h]
  exact word_or ha (pow_word h)
theorem put_grown (w : World) (b i : Nat) (v : Value) : w.grownBy ((w.setCell ⟨b, i, none⟩ v).drew) (some b) :=
  ⟨rfl, rfl, rfl, by simp [World.setCell, World.drew], fun k _ hne => (Below.heap_setCell w ⟨b, i, none⟩ v k (fun e => hne (by rw [e])))⟩
theorem put_grown2 (w : World) (b i : Nat) (v u : Value) : w.grownBy (((w.setCell ⟨b, i, none⟩ v).setCell ⟨b, i, none⟩ u).drew.drew) (some b) := (put_grown w b i v).trans (put_grown _ b i u)
set_option maxRecDepth 100000 in
set_option maxHeartbeats 1000000 in
theorem put_lo1 (a : Nat) (ha : a < 2 ^ 64) (t : Nat) (ht : t < 64) (b o : Nat) (ty : TypeId) (cs : Array Value) (w : World) (hk : Blk w b ty cs) (h0 : cs[o]? = some (.int .u64 a)) :
    Calls Tryz.prog 37 #[.pointer (some ⟨b, o, none⟩), .int .i64 t, .bool true] w fun e w' => e = .returned (.tuple #[]) ∧ Blk w' b ty (cs.setIfInBounds (o) (.int .u64 ((wput a t true : Nat) : Int))) ∧ w.grownBy w' (some b) ∧ w'.heap.size = w.heap.size := by
  have hd : ((t : Int) / 64) = 0 := by omega
  have hm : ((t : Int) % 64) = t := by omega
  have hs : t < 64 := ht
  have e1 := clr_bits ha hs
  have HC := Lib.hid e1
  have HO := Lib.hid (or_bits (a := wclr a (2 ^ t)) (wclr_lt ha) hs)
  have HA := Lib.hid ha
  have HK := Lib.hid hk
  have HI := Lib.hid h0
  have h0' := (hk.cell (o)).trans h0
  have f0 := hk.frozen (o)
  clear ha e1 hk h0 ht
  go_enter Tryz.func37, Tryz.ntmps37
  go_wp2
  go_region
  rw [HC.out]
  have h1' := World.cell?_setCell_same' w ⟨b, o, none⟩ (.int .u64 ((wclr a (2 ^ t) : Nat) : Int)) (by rw [h0']; rfl)
  go_wp2
  go_region
  rw [HO.out]
  go_wp2
  go_end0
  exact ⟨rfl, by have := (HK.out.set (o) (.int .u64 ((wclr a (2 ^ t) : Nat) : Int))).set (o) (.int .u64 ((wput a t true : Nat) : Int)); rw [Array.setIfInBounds_setIfInBounds] at this; exact this, put_grown2 w b (o) _ _, by simp [World.setCell]⟩
set_option maxRecDepth 100000 in
set_option maxHeartbeats 1000000 in
theorem put_lo0 (a : Nat) (ha : a < 2 ^ 64) (t : Nat) (ht : t < 64) (b o : Nat) (ty : TypeId) (cs : Array Value) (w : World) (hk : Blk w b ty cs) (h0 : cs[o]? = some (.int .u64 a)) :
    Calls Tryz.prog 37 #[.pointer (some ⟨b, o, none⟩), .int .i64 t, .bool false] w fun e w' => e = .returned (.tuple #[]) ∧ Blk w' b ty (cs.setIfInBounds (o) (.int .u64 ((wput a t false : Nat) : Int))) ∧ w.grownBy w' (some b) ∧ w'.heap.size = w.heap.size := by
  have hd : ((t : Int) / 64) = 0 := by omega
  have hm : ((t : Int) % 64) = t := by omega
  have hs : t < 64 := ht
  have e1 := clr_bits ha hs
  have HC := Lib.hid e1
  have HO := Lib.hid (or_bits (a := wclr a (2 ^ t)) (wclr_lt ha) hs)
  have HA := Lib.hid ha
  have HK := Lib.hid hk
  have HI := Lib.hid h0
  have h0' := (hk.cell (o)).trans h0
  have f0 := hk.frozen (o)
  clear ha e1 hk h0 ht
  go_enter Tryz.func37, Tryz.ntmps37
  go_wp2
  go_region
  rw [HC.out]
  go_wp2
  go_end0
  exact ⟨rfl, HK.out.set (o) _, put_grown w b (o) _, by simp [World.setCell]⟩
set_option maxRecDepth 100000 in
set_option maxHeartbeats 1000000 in
theorem put_hi1 (a : Nat) (ha : a < 2 ^ 64) (t u : Nat) (h1 : 64 ≤ t) (ht : t < 128) (hu : u = t - 64) (b o : Nat) (ty : TypeId) (cs : Array Value) (w : World) (hk : Blk w b ty cs) (h0 : cs[o + 1]? = some (.int .u64 a)) :
    Calls Tryz.prog 37 #[.pointer (some ⟨b, o, none⟩), .int .i64 t, .bool true] w fun e w' => e = .returned (.tuple #[]) ∧ Blk w' b ty (cs.setIfInBounds (o + 1) (.int .u64 ((wput a u true : Nat) : Int))) ∧ w.grownBy w' (some b) ∧ w'.heap.size = w.heap.size := by
  have hd : ((t : Int) / 64) = 1 := by omega
  have hm : ((t : Int) % 64) = u := by omega
  have hs : u < 64 := by omega
  have e1 := clr_bits ha hs
  have HC := Lib.hid e1
  have HO := Lib.hid (or_bits (a := wclr a (2 ^ u)) (wclr_lt ha) hs)
  have HA := Lib.hid ha
  have HK := Lib.hid hk
  have HI := Lib.hid h0
  have h0' := (hk.cell (o + 1)).trans h0
  have f0 := hk.frozen (o + 1)
  clear ha e1 hk h0 ht hu h1
  go_enter Tryz.func37, Tryz.ntmps37
  go_wp2
  go_region
  rw [HC.out]
  have h1' := World.cell?_setCell_same' w ⟨b, o + 1, none⟩ (.int .u64 ((wclr a (2 ^ u) : Nat) : Int)) (by rw [h0']; rfl)
  go_wp2
  go_region
  rw [HO.out]
  go_wp2
  go_end0
  exact ⟨rfl, by have := (HK.out.set (o + 1) (.int .u64 ((wclr a (2 ^ u) : Nat) : Int))).set (o + 1) (.int .u64 ((wput a u true : Nat) : Int)); rw [Array.setIfInBounds_setIfInBounds] at this; exact this, put_grown2 w b (o + 1) _ _, by simp [World.setCell]⟩
set_option maxRecDepth 100000 in
set_option maxHeartbeats 1000000 in
theorem put_hi0 (a : Nat) (ha : a < 2 ^ 64) (t u : Nat) (h1 : 64 ≤ t) (ht : t < 128) (hu : u = t - 64) (b o : Nat) (ty : TypeId) (cs : Array Value) (w : World) (hk : Blk w b ty cs) (h0 : cs[o + 1]? = some (.int .u64 a)) :
    Calls Tryz.prog 37 #[.pointer (some ⟨b, o, none⟩), .int .i64 t, .bool false] w fun e w' => e = .returned (.tuple #[]) ∧ Blk w' b ty (cs.setIfInBounds (o + 1) (.int .u64 ((wput a u false : Nat) : Int))) ∧ w.grownBy w' (some b) ∧ w'.heap.size = w.heap.size := by
  have hd : ((t : Int) / 64) = 1 := by omega
  have hm : ((t : Int) % 64) = u := by omega
  have hs : u < 64 := by omega
  have e1 := clr_bits ha hs
  have HC := Lib.hid e1
  have HO := Lib.hid (or_bits (a := wclr a (2 ^ u)) (wclr_lt ha) hs)
  have HA := Lib.hid ha
  have HK := Lib.hid hk
  have HI := Lib.hid h0
  have h0' := (hk.cell (o + 1)).trans h0
  have f0 := hk.frozen (o + 1)
  clear ha e1 hk h0 ht hu h1
  go_enter Tryz.func37, Tryz.ntmps37
  go_wp2
  go_region
  rw [HC.out]
  go_wp2
  go_end0
  exact ⟨rfl, HK.out.set (o + 1) _, put_grown w b (o + 1) _, by simp [World.setCell]⟩
theorem put_any (q : Rw) (hq : RwOk q) (t : Nat) (ht : t < 128) (hb : Bool) (b o : Nat) (ty : TypeId) (cs : Array Value) (w : World) (hk : Blk w b ty cs) (h0 : cs[o]? = some (.int .u64 q.1)) (h1 : cs[o + 1]? = some (.int .u64 q.2)) :
    Calls Tryz.prog 37 #[.pointer (some ⟨b, o, none⟩), .int .i64 t, .bool hb] w fun e w' => e = .returned (.tuple #[]) ∧ Blk w' b ty ((cs.setIfInBounds o (.int .u64 ((putR q t hb).1 : Int))).setIfInBounds (o + 1) (.int .u64 ((putR q t hb).2 : Int))) ∧ w.grownBy w' (some b) ∧ w'.heap.size = w.heap.size := by
  have same : ∀ (cs : Array Value) (i : Nat) (v : Value), cs[i]? = some v → cs.setIfInBounds i v = cs := by
    intro cs i v h
    apply Array.ext_getElem?
    intro j
    rw [Array.getElem?_setIfInBounds]
    by_cases e : i = j
    · subst e
      obtain ⟨hl, _⟩ := Array.getElem?_eq_some_iff.1 h
      rw [if_pos rfl, if_pos hl, h]
    · rw [if_neg e]
  unfold putR
  by_cases hl : t < 64
  · simp only [if_pos hl]
    have e : ∀ v, (cs.setIfInBounds o v).setIfInBounds (o + 1) (.int .u64 (q.2 : Int)) = cs.setIfInBounds o v := fun v => same _ _ _ (by rw [Array.getElem?_setIfInBounds, if_neg (by omega)]; exact h1)
    rw [e]
    cases hb with
    | true => exact put_lo1 q.1 hq.lo t hl b o ty cs w hk h0
    | false => exact put_lo0 q.1 hq.lo t hl b o ty cs w hk h0
  · simp only [if_neg hl]
    rw [same cs o _ h0]
    cases hb with
    | true => exact put_hi1 q.2 hq.hi t (t - 64) (by omega) ht rfl b o ty cs w hk h1
    | false => exact put_hi0 q.2 hq.hi t (t - 64) (by omega) ht rfl b o ty cs w hk h1
end Go.Proofs.YtppccacfdpkkgaaGreatDoor
