/-
  WALKS: the law's helpers: fields and alike.
-/
import Derived.Test.YtoclgcneclbfiaaDoorW8
import Derived.Deep.QuietTactic
import Derived.BigQuiet
import Derived.Deep.RegionHeld3
import Derived.Deep.AppendLies
namespace Go.Proofs.YtoclgcneclbfiaaDoor
open Go.RowKit

/-- A slice of fields reads as a list of them. -/
def FRead (w : World) (v : Value) (fs : List (Bool × ByteArray)) : Prop :=
  (v = .slice none 0 0 ∧ fs = []) ∨ ∃ b o cap, v = .slice (some ⟨b, o, none⟩) fs.length cap ∧
    ∀ i (h : i < fs.length), w.cell? ⟨b, o + i * 2, none⟩ = some (.bool fs[i].1) ∧ w.cell? ⟨b, o + i * 2 + 1, none⟩ = some (.string fs[i].2)
theorem FRead.later {w w' : World} {v : Value} {fs : List (Bool × ByteArray)} (h : FRead w v fs) (hb : Below w.heap.size w w') : FRead w' v fs := by
  rcases h with h | ⟨b, o, cap, h1, h2⟩
  · exact .inl h
  · exact .inr ⟨b, o, cap, h1, fun i hi => ⟨(hb.cell (cell_size (h2 i hi).1)).trans (h2 i hi).1, (hb.cell (cell_size (h2 i hi).2)).trans (h2 i hi).2⟩⟩

theorem run_neq61 (a b : Bool) (x y : ByteArray) (w : World) : (binOp .neq 61 (.agg #[.bool a, .string x]) (.agg #[.bool b, .string y])).run Tryd.prog w = .ok (.bool (!(a == b && x.toList == y.toList))) w := by
  rw [run_neq_struct]
  rw [run_equalIn_agg w 9999 61 _ _ (by kernel_rfl) (by kernel_rfl)]
  simp only [Program.fieldsOf, Tryd.underlying61]
  simp [go_sem, Tryd.underlying4, Tryd.underlying9, part]
  by_cases h1 : a = b <;> by_cases h2 : x.toList = y.toList <;> simp [h1, h2]
theorem fL_eq (f g : Bool × ByteArray) : (f.1 == g.1 && f.2.toList == g.2.toList) = decide (fL f = fL g) := by
  rw [Bool.eq_iff_iff]
  simp only [Bool.and_eq_true, beq_iff_eq, decide_eq_true_eq, fL, Prod.mk.injEq, Lib.toList_data]
  rfl
theorem neq_yes (f g : Bool × ByteArray) (h : fL f = fL g) (w : World) : (binOp .neq 61 (.agg #[.bool f.1, .string f.2]) (.agg #[.bool g.1, .string g.2])).run Tryd.prog w = .ok (.bool false) w := by
  rw [run_neq61, fL_eq, decide_eq_true h]; rfl
theorem neq_no (f g : Bool × ByteArray) (h : ¬ fL f = fL g) (w : World) : (binOp .neq 61 (.agg #[.bool f.1, .string f.2]) (.agg #[.bool g.1, .string g.2])).run Tryd.prog w = .ok (.bool true) w := by
  rw [run_neq61, fL_eq, decide_eq_false h]; rfl
theorem map_take_succ {α β : Type} (f : α → β) (l : List α) (k : Nat) (h : k < l.length) : (l.take (k + 1)).map f = (l.take k).map f ++ [f l[k]] := by
  rw [List.take_succ_eq_append_getElem h, List.map_append]; rfl

set_option maxRecDepth 100000 in
set_option maxHeartbeats 800000 in
theorem alike_mem (fs gs : List (Bool × ByteArray)) (b1 o1 c1 b2 o2 c2 : Nat) (w : World)
    (h1 : ∀ i (h : i < fs.length), w.cell? ⟨b1, o1 + i * 2, none⟩ = some (.bool fs[i].1) ∧ w.cell? ⟨b1, o1 + i * 2 + 1, none⟩ = some (.string fs[i].2))
    (h2 : ∀ i (h : i < gs.length), w.cell? ⟨b2, o2 + i * 2, none⟩ = some (.bool gs[i].1) ∧ w.cell? ⟨b2, o2 + i * 2 + 1, none⟩ = some (.string gs[i].2))
    (hn : fs.length ≤ 100000) (hl : fs.length = gs.length) :
    Calls Tryd.prog 28 #[.slice (some ⟨b1, o1, none⟩) fs.length c1, .slice (some ⟨b2, o2, none⟩) gs.length c2] w fun e w' => e = .returned (.bool (decide (fs.map fL = gs.map fL))) ∧ Below w.heap.size w w' := by
  have hlb : ((fs.length : Int) != (gs.length : Int)) = false := by rw [bne_eq_false_iff_eq]; omega
  have HLn := Lib.hid hl
  have hg : gs.length ≤ 100000 := by omega
  have H1 := Lib.hid h1
  have H2 := Lib.hid h2
  clear hl h1 h2
  go_enter Tryd.func28, Tryd.ntmps28
  go_wp2
  go_loopw [5] (fun i wr => ∃ k : Nat, k ≤ fs.length ∧ i = .int .i64 k ∧ (fs.take k).map fL = (gs.take k).map fL ∧ Below w.heap.size w wr) (fun i _ => fs.length - (intOf i).toNat)
  case atStart => exact ⟨0, Nat.zero_le _, rfl, rfl, Below.refl _ _⟩
  case round =>
    obtain ⟨k, hk, rfl, hal, hB⟩ := hrel
    by_cases hlt : k < fs.length
    · have hlt2 : k < gs.length := by rw [← HLn.out]; exact hlt
      obtain ⟨a1, a2⟩ := H1.out k hlt
      obtain ⟨a3, a4⟩ := H2.out k hlt2
      have d1 := (hB.cell (cell_size a1)).trans a1
      have d2 := (hB.cell (cell_size a2)).trans a2
      have d3 := (hB.cell (cell_size a3)).trans a3
      have d4 := (hB.cell (cell_size a4)).trans a4
      have HA := Lib.hid hal
      clear hal a1 a2 a3 a4
      by_cases he : fL fs[k] = fL gs[k]
      · have hq := fun W => neq_yes fs[k] gs[k] he W
        have HE := Lib.hid he
        clear he
        go_wp2_with fail
        go_quiet (fail)
        go_wp2
        go_roundw
        case rel => exact ⟨k + 1, by omega, by go_num, by rw [map_take_succ fL fs k hlt, map_take_succ fL gs k hlt2, HA.out, HE.out], below_drewN hB _⟩
        case measure => simp [intOf]; omega
      · have hq := fun W => neq_no fs[k] gs[k] he W
        have HE := Lib.hid he
        clear he
        go_wp2_with fail
        go_quiet (fail)
        go_wp2
        go_ret
        refine ⟨ret_bool ?_, below_drewN hB _⟩
        rw [eq_comm, decide_eq_false_iff_not]
        intro e
        apply HE.out
        have := congrArg (fun l => l[k]?) e
        simpa [hlt, hlt2] using this
    · have HA := Lib.hid hal
      have hlt2 : ¬ k < gs.length := by rw [← HLn.out]; exact hlt
      clear hal
      go_wp2
      go_ret
      refine ⟨ret_bool ?_, hB⟩
      rw [eq_comm, decide_eq_true_eq]
      have := HA.out
      rwa [List.take_of_length_le (by omega), List.take_of_length_le (by omega)] at this
set_option maxHeartbeats 400000 in
theorem alike_len (a1 a2 : Option Addr) (n1 n2 c1 c2 : Nat) (w : World) (h : n1 ≠ n2) :
    Calls Tryd.prog 28 #[.slice a1 n1 c1, .slice a2 n2 c2] w fun e w' => e = .returned (.bool false) ∧ Below w.heap.size w w' := by
  have hlb : ((n1 : Int) != (n2 : Int)) = true := by rw [bne_iff_ne]; omega
  clear h
  go_enter Tryd.func28, Tryd.ntmps28
  go_wp2
  go_ret
  exact ⟨rfl, Below.refl _ _⟩
set_option maxHeartbeats 400000 in
theorem alike_nil (a1 a2 : Option Addr) (c1 c2 : Nat) (w : World) :
    Calls Tryd.prog 28 #[.slice a1 0 c1, .slice a2 0 c2] w fun e w' => e = .returned (.bool true) ∧ Below w.heap.size w w' := by
  go_enter Tryd.func28, Tryd.ntmps28
  go_wp2
  go_loop [5] (fun i => i = .int .i64 0) (fun _ => 0)
  case atStart => rfl
  case round =>
    subst hrel
    go_wp2
    go_ret
    exact ⟨rfl, Below.refl _ _⟩
theorem FRead.form {w : World} {v : Value} {fs : List (Bool × ByteArray)} (h : FRead w v fs) : ∃ a c, v = .slice a fs.length c := by
  rcases h with ⟨rfl, rfl⟩ | ⟨b, o, cap, rfl, _⟩
  · exact ⟨_, _, rfl⟩
  · exact ⟨_, _, rfl⟩
theorem alike_any (v1 v2 : Value) (fs gs : List (Bool × ByteArray)) (w : World) (h1 : FRead w v1 fs) (h2 : FRead w v2 gs) (hn : fs.length ≤ 100000) :
    Calls Tryd.prog 28 #[v1, v2] w fun e w' => e = .returned (.bool (decide (fs.map fL = gs.map fL))) ∧ Below w.heap.size w w' := by
  obtain ⟨a1, c1, e1⟩ := h1.form
  obtain ⟨a2, c2, e2⟩ := h2.form
  by_cases hl : fs.length = gs.length
  · by_cases h0 : fs.length = 0
    · have f0 := List.length_eq_zero_iff.1 h0
      have g0 := List.length_eq_zero_iff.1 (hl ▸ h0)
      rw [e1, e2, f0, g0]
      exact alike_nil a1 a2 c1 c2 w
    · rcases h1 with ⟨_, rfl⟩ | ⟨b1, o1, c1', rfl, h1⟩
      · exact absurd rfl h0
      · rcases h2 with ⟨_, rfl⟩ | ⟨b2, o2, c2', rfl, h2⟩
        · exact absurd hl h0
        · exact alike_mem fs gs b1 o1 c1' b2 o2 c2' w h1 h2 hn hl
  · rw [e1, e2, decide_eq_false (fun e => hl (by have := congrArg List.length e; simpa using this))]
    exact alike_len a1 a2 _ _ c1 c2 w hl
theorem ownsRow_drew {W : World} {base : Nat} {t : TypeId} {size k : Nat} {v : Value} {xs : List Value} (h : W.ownsRow base t size v k xs) : W.drew.ownsRow base t size v k xs := h
theorem row_ge {W : World} {base : Nat} {t : TypeId} {size k : Nat} {v : Value} {xs : List Value} (h : W.ownsRow base t size v k xs) {j : Nat} (e : v.ownBlock = some j) : base ≤ j := by
  rcases h.2 with ⟨rfl, _⟩ | ⟨g, cap, cur, rfl, hg, _⟩
  · simp [Value.ownBlock] at e
  · have : g = j := by simpa [Value.ownBlock] using e
    omega
theorem info61 : (Tryd.prog.info? 61).map (fun i => (i.zero, i.size, i.bytes)) = some (some (.agg #[.bool false, .string ByteArray.empty]), 2, 24) := by kernel_rfl
theorem fcells_take (fs : List (Bool × ByteArray)) (k : Nat) (h : k < fs.length) : fcells (fs.take (k + 1)) = fcells (fs.take k) ++ [.bool fs[k].1, .string fs[k].2] := by
  rw [List.take_succ_eq_append_getElem h]; exact fcells_snoc _ _ _
set_option maxRecDepth 100000 in
set_option maxHeartbeats 1600000 in
theorem fields_mem (fs : List (Bool × ByteArray)) (a : Option Addr) (c : Nat) (w : World) (hn : fs.length ≤ 100000)
    (h1 : ∀ i (h : i < fs.length), ∃ b o, a = some ⟨b, o, none⟩ ∧ w.cell? ⟨b, o + i * 2, none⟩ = some (.bool fs[i].1) ∧ w.cell? ⟨b, o + i * 2 + 1, none⟩ = some (.string fs[i].2)) :
    Calls Tryd.prog 29 #[.slice a fs.length c] w fun e w' => ∃ v, e = .returned v ∧ w'.ownsRow w.heap.size 61 2 v fs.length (fcells fs) ∧ Below w.heap.size w w' := by
  obtain ⟨i0, hi, hz0, hz1, hz2⟩ := info_parts info61
  have H1 := Lib.hid h1
  clear h1
  go_enter Tryd.func29, Tryd.ntmps29
  go_wp2
  go_loopw [3, 4] (fun v i wr => ∃ k : Nat, k ≤ fs.length ∧ i = .int .i64 k ∧ wr.ownsRow w.heap.size 61 2 v k (fcells (fs.take k)) ∧ Below w.heap.size w wr) (fun _ i _ => fs.length - (intOf i).toNat)
  case atStart => exact ⟨0, Nat.zero_le _, rfl, World.ownsRow_nil _ _ _ _, Below.refl _ _⟩
  case round =>
    obtain ⟨k, hk, rfl, hown, hB⟩ := hrel
    by_cases hlt : k < fs.length
    · obtain ⟨b, o, rfl, a1, a2⟩ := H1.out k hlt
      have d1 := (hB.cell (cell_size a1)).trans a1
      have d2 := (hB.cell (cell_size a2)).trans a2
      have hbl : b < w.heap.size := cell_size a1
      have hbr : b < wr.heap.size := cell_size d1
      have hne : some b ≠ u3.ownBlock := fun e => by have := row_ge hown e.symm; omega
      clear a1 a2
      have hBs := hB.size
      have hi1 : (0 : Int) ≤ (k : Int) := Int.natCast_nonneg _
      have hi2 : (k : Int) < (fs.length : Int) := by omega
      have hm1 : k + 1 ≤ maxLen := by unfold maxLen; omega
      have hm2 : (k + 1) * 24 ≤ 140737488355328 := by omega
      go_wp2_with fail
      go_region_held3 (fun w' => w'.cell? ⟨b, o + k * 2, none⟩ = some (.bool fs[k].1) ∧ w'.cell? ⟨b, o + k * 2 + 1, none⟩ = some (.string fs[k].2))
        (first
          | go_keep
          | (go_split_ands
             refine ⟨?_, ?_⟩
             · (rw [hgrow.cell_far _ (by simp; omega) hne]; assumption)
             · (rw [hgrow.cell_far _ (by simp; omega) hne]; assumption)))
        ((refine step_append_lies _ (by rfl) _ _ _ (by rfl) w.heap.size 61 i0 _ 2 24 Tryd.underlying36 hi hz0 hz1 hz2 rfl (by omega) u3 k (fcells (fs.take k)) (by rfl) ((hown.alloc _).drew)
            ⟨wr.heap.size, 0, none⟩ 1 1 [.bool fs[k].1, .string fs[k].2] (by rfl) (by rfl) (World.news_of_block (cs := #[.bool fs[k].1, .string fs[k].2]) (t := 61) (fr := (0, 0)) (heap_alloc_new wr _)) (by simp [Value.oneCell'])
            (by omega) hm1 hm2 (by simp; omega) (wr.heap.size + 1) (by simp) ?_; intro gg cap w1 hown1 hgrow hat hlt1))
      go_wp2
      have hB3 := ((hB.alloc hBs (.cells #[.bool fs[k].1, .string fs[k].2] 61)).drew).grown hgrow (by simp; omega) (fun j e => row_ge hown e)
      go_roundw
      case rel => exact ⟨k + 1, by omega, by go_num, by rw [fcells_take fs k hlt]; exact hown1, hB3⟩
      case measure => simp [intOf]; omega
    · have hke : k = fs.length := by omega
      have HK := Lib.hid hke
      clear hke
      go_wp2
      go_ret
      refine ⟨_, rfl, ?_, hB⟩
      have := hown
      rw [HK.out, List.take_length] at this
      exact this
theorem fields_any (v : Value) (fs : List (Bool × ByteArray)) (w : World) (h : FRead w v fs) (hn : fs.length ≤ 100000) :
    Calls Tryd.prog 29 #[v] w fun e w' => ∃ v, e = .returned v ∧ w'.ownsRow w.heap.size 61 2 v fs.length (fcells fs) ∧ Below w.heap.size w w' := by
  rcases h with ⟨rfl, rfl⟩ | ⟨b, o, cap, rfl, h⟩
  · exact fields_mem [] none 0 w (by simp) (fun i h => by simp at h)
  · exact fields_mem fs _ cap w hn (fun i hi => ⟨b, o, rfl, h i hi⟩)
end Go.Proofs.YtoclgcneclbfiaaDoor
