/-
  CONTRACTS: Far: if it says no, the sizes are small.
-/
import Derived.Test.YtppccacfdpkkgaaGreatDoorArr
import Derived.Test.YtppccacfdpkkgaaGreatDoorRowG
namespace Go.Proofs.YtppccacfdpkkgaaGreatDoor
open Go.RowKit
def FarEnds (S : Sp) (w : World) (e : Ending) (w' : World) : Prop := ∃ b, e = .returned (.bool b) ∧ (b = false → SpOk S) ∧ Below w.heap.size w w'
theorem farEnds_yes {S : Sp} {w w' : World} {v : Value} (hv : v = .bool true) (hb : Below w.heap.size w w') : FarEnds S w (.returned v) w' := ⟨true, by rw [hv], (fun h => by cases h), hb⟩
theorem farEnds_of {S : Sp} {w w' : World} {v : Value} {b : Bool} (hv : v = .bool b) (h : b = false → SpOk S) (hb : Below w.heap.size w w') : FarEnds S w (.returned v) w' := ⟨b, by rw [hv], h, hb⟩
theorem all_of_get {α : Type} {l : List α} {p : α → Prop} (h : ∀ j (h : j < l.length), j < l.length → p l[j]) : ∀ x ∈ l, p x := by
  intro x hx
  obtain ⟨j, hj, rfl⟩ := List.mem_iff_getElem.1 hx
  exact h j hj hj
theorem upto_step {α : Type} {l : List α} {p : α → Prop} {k : Nat} (hk : k < l.length) (h : ∀ j (h : j < l.length), j < k → p l[j]) (h2 : p l[k]) : ∀ j (h : j < l.length), j < k + 1 → p l[j] := by
  intro j hj hjk
  rcases Nat.lt_succ_iff_lt_or_eq.1 hjk with h' | h'
  · exact h j hj h'
  · subst h'; exact h2
set_option maxRecDepth 100000 in
set_option maxHeartbeats 3200000 in
theorem far_long (a1 a2 a3 a4 : Option Addr) (c1 c2 c3 c4 : Nat) (S : Sp) (w : World) (h : 10 < S.ds.length ∨ (S.ds.length ≤ 10 ∧ 50 < S.rs.length) ∨ (S.ds.length ≤ 10 ∧ S.rs.length ≤ 50 ∧ 100 < S.ss.length) ∨ (S.ds.length ≤ 10 ∧ S.rs.length ≤ 50 ∧ S.ss.length ≤ 100 ∧ 40 < S.cs.length)) :
    Calls Tryz.prog 25 #[.agg #[.slice a1 S.ds.length c1, .slice a2 S.rs.length c2, .slice a3 S.ss.length c3, .slice a4 S.cs.length c4]] w (FarEnds S w) := by
  have HB := Lib.hid (show Below w.heap.size w (w.alloc (.cells #[.slice a1 S.ds.length c1, .slice a2 S.rs.length c2, .slice a3 S.ss.length c3, .slice a4 S.cs.length c4] 27)) from (Below.refl _ w).alloc (Nat.le_refl _) _)
  rcases h with h | ⟨h1, h⟩ | ⟨h1, h2, h⟩ | ⟨h1, h2, h3, h⟩
  all_goals
    go_enter Tryz.func25, Tryz.ntmps25
    go_wp2
    go_ret
    exact farEnds_yes rfl HB.out
set_option maxRecDepth 100000 in
set_option maxHeartbeats 6400000 in
theorem far_short (a1 a2 a3 a4 : Option Addr) (c1 c2 c3 c4 : Nat) (S : Sp) (w : World) (f : Nat → Value) (hsp : SpRd w (.slice a1 S.ds.length c1) (.slice a2 S.rs.length c2) (.slice a3 S.ss.length c3) (.slice a4 S.cs.length c4) f S)
    (l1 : S.ds.length ≤ 10) (l2 : S.rs.length ≤ 50) (l3 : S.ss.length ≤ 100) (l4 : S.cs.length ≤ 40) :
    Calls Tryz.prog 25 #[.agg #[.slice a1 S.ds.length c1, .slice a2 S.rs.length c2, .slice a3 S.ss.length c3, .slice a4 S.cs.length c4]] w (FarEnds S w) := by
  have hb0 : Below w.heap.size w (w.alloc (.cells #[.slice a1 S.ds.length c1, .slice a2 S.rs.length c2, .slice a3 S.ss.length c3, .slice a4 S.cs.length c4] 27)) := (Below.refl _ w).alloc (Nat.le_refl _) _
  have k0 : Blk (w.alloc (.cells #[.slice a1 S.ds.length c1, .slice a2 S.rs.length c2, .slice a3 S.ss.length c3, .slice a4 S.cs.length c4] 27)) w.heap.size 27 #[.slice a1 S.ds.length c1, .slice a2 S.rs.length c2, .slice a3 S.ss.length c3, .slice a4 S.cs.length c4] := Blk.new w _ _
  obtain ⟨W, hW⟩ : ∃ W, W = w.alloc (.cells #[.slice a1 S.ds.length c1, .slice a2 S.rs.length c2, .slice a3 S.ss.length c3, .slice a4 S.cs.length c4] 27) := ⟨_, rfl⟩
  have HW := Lib.hid hW
  rw [← hW] at hb0 k0
  have HB := Lib.hid hb0
  have HSP := Lib.hid (hsp.later hb0)
  have HK := Lib.hid k0
  have g10 : decide ((10 : Int) < (S.ds.length : Int)) = false := by rw [decide_eq_false_iff_not]; omega
  have g50 : decide ((50 : Int) < (S.rs.length : Int)) = false := by rw [decide_eq_false_iff_not]; omega
  have g100 : decide ((100 : Int) < (S.ss.length : Int)) = false := by rw [decide_eq_false_iff_not]; omega
  have g40 : decide ((40 : Int) < (S.cs.length : Int)) = false := by rw [decide_eq_false_iff_not]; omega
  clear hW hb0 k0 hsp
  go_enter Tryz.func25, Tryz.ntmps25
  go_wp2
  rw [← HW.out]
  clear HW g10 g50 g100 g40
  obtain ⟨s0, s1, s2, s3⟩ := HK.out.four
  go_loop [3, 4] (fun u x => ∃ (k : Nat) (b : Bool), k ≤ S.ds.length ∧ x = .int .i64 k ∧ u = .bool b ∧ RowKit.Hid (b = false → (∀ j (h : j < S.ds.length), j < k → S.ds[j].name.size ≤ 100))) (fun _ x => S.ds.length - (intOf x).toNat)
  case atStart => exact ⟨0, false, by omega, rfl, rfl, Lib.hid (fun _ => fun j _ hj => by omega)⟩
  obtain ⟨k, b0, hk, rfl, rfl, hN⟩ := hrel
  by_cases hlt : k < S.ds.length
  · obtain ⟨bb, o, c, ev, hbl, r0, _⟩ := HSP.out.dAt k hlt
    cases ev
    have hk2 : (k : Int) < (S.ds.length : Int) := by omega
    cases b0 with
    | true =>
      go_wp2
      go_round
      case rel => exact ⟨k + 1, true, by omega, by go_num, rfl, Lib.hid (fun h => by cases h)⟩
      case measure => simp [intOf]; omega
    | false =>
      have HN := Lib.hid (hN.out rfl)
      clear hN
      by_cases hsz : S.ds[k].name.size ≤ 100
      · have hd : decide ((100 : Int) < (S.ds[k].name.size : Int)) = false := by rw [decide_eq_false_iff_not]; omega
        have HZ := Lib.hid hsz
        clear hsz
        go_wp2
        go_round
        case rel => exact ⟨k + 1, false, by omega, by go_num, rfl, Lib.hid (fun _ => upto_step (p := fun x => x.name.size ≤ 100) hlt HN.out HZ.out)⟩
        case measure => simp [intOf]; omega
      · have hd : decide ((100 : Int) < (S.ds[k].name.size : Int)) = true := by rw [decide_eq_true_iff]; omega
        clear hsz
        go_wp2
        go_round
        case rel => exact ⟨k + 1, true, by omega, by go_num, rfl, Lib.hid (fun h => by cases h)⟩
        case measure => simp [intOf]; omega
  · have hke : k = S.ds.length := by omega
    have hk2 : ¬ ((k : Int) < (S.ds.length : Int)) := by omega
    have HN0 := hN
    rw [hke] at HN0
    clear hN
    go_wp2
    clear hke hk2 hlt hk
    go_loop [3, 5] (fun u x => ∃ (k : Nat) (b : Bool), k ≤ S.rs.length ∧ x = .int .i64 k ∧ u = .bool b ∧ RowKit.Hid (b = false → (∀ j (h : j < S.ds.length), j < S.ds.length → S.ds[j].name.size ≤ 100) ∧ (∀ j (h : j < S.rs.length), j < k → S.rs[j].name.size ≤ 100))) (fun _ x => S.rs.length - (intOf x).toNat)
    case atStart => exact ⟨0, b0, by omega, rfl, rfl, Lib.hid (fun hb => ⟨HN0.out hb, fun j _ hj => by omega⟩)⟩
    clear HN0
    obtain ⟨k, b1, hk, rfl, rfl, hN⟩ := hrel
    by_cases hlt : k < S.rs.length
    · obtain ⟨bb, o, c, ev, hbl, r0, _⟩ := HSP.out.rAt k hlt
      cases ev
      have hk2 : (k : Int) < (S.rs.length : Int) := by omega
      cases b1 with
      | true =>
        go_wp2
        go_round
        case rel => exact ⟨k + 1, true, by omega, by go_num, rfl, Lib.hid (fun h => by cases h)⟩
        case measure => simp [intOf]; omega
      | false =>
        have HN := Lib.hid (hN.out rfl)
        clear hN
        by_cases hsz : S.rs[k].name.size ≤ 100
        · have hd : decide ((100 : Int) < (S.rs[k].name.size : Int)) = false := by rw [decide_eq_false_iff_not]; omega
          have HZ := Lib.hid hsz
          clear hsz
          go_wp2
          go_round
          case rel => exact ⟨k + 1, false, by omega, by go_num, rfl, Lib.hid (fun _ => ⟨HN.out.1, upto_step (p := fun x => x.name.size ≤ 100) hlt (HN.out.2) HZ.out⟩)⟩
          case measure => simp [intOf]; omega
        · have hd : decide ((100 : Int) < (S.rs[k].name.size : Int)) = true := by rw [decide_eq_true_iff]; omega
          clear hsz
          go_wp2
          go_round
          case rel => exact ⟨k + 1, true, by omega, by go_num, rfl, Lib.hid (fun h => by cases h)⟩
          case measure => simp [intOf]; omega
    · have hke : k = S.rs.length := by omega
      have hk2 : ¬ ((k : Int) < (S.rs.length : Int)) := by omega
      have HN1 := hN
      rw [hke] at HN1
      clear hN
      go_wp2
      clear hke hk2 hlt hk
      go_loop [3, 6] (fun u x => ∃ (k : Nat) (b : Bool), k ≤ S.ss.length ∧ x = .int .i64 k ∧ u = .bool b ∧ RowKit.Hid (b = false → (∀ j (h : j < S.ds.length), j < S.ds.length → S.ds[j].name.size ≤ 100) ∧ (∀ j (h : j < S.rs.length), j < S.rs.length → S.rs[j].name.size ≤ 100) ∧ (∀ j (h : j < S.ss.length), j < k → S.ss[j].name.size ≤ 100 ∧ S.ss[j].parts.length ≤ 20))) (fun _ x => S.ss.length - (intOf x).toNat)
      case atStart => exact ⟨0, b1, by omega, rfl, rfl, Lib.hid (fun hb => ⟨(HN1.out hb).1, (HN1.out hb).2, fun j _ hj => by omega⟩)⟩
      clear HN1
      obtain ⟨k, b2, hk, rfl, rfl, hN⟩ := hrel
      by_cases hlt : k < S.ss.length
      · obtain ⟨bb, o, c, ev, hbl, r0, _, _, _, r4⟩ := HSP.out.sAt k hlt
        obtain ⟨ap, cp, efp⟩ := (HSP.out.p k hlt).form
        rw [List.length_map] at efp
        rw [efp] at r4
        clear efp
        cases ev
        have hk2 : (k : Int) < (S.ss.length : Int) := by omega
        cases b2 with
        | true =>
          go_wp2
          go_round
          case rel => exact ⟨k + 1, true, by omega, by go_num, rfl, Lib.hid (fun h => by cases h)⟩
          case measure => simp [intOf]; omega
        | false =>
          have HN := Lib.hid (hN.out rfl)
          clear hN
          by_cases hsz : S.ss[k].name.size ≤ 100
          · have hd : decide ((100 : Int) < (S.ss[k].name.size : Int)) = false := by rw [decide_eq_false_iff_not]; omega
            have HZ := Lib.hid hsz
            clear hsz
            by_cases hpz : S.ss[k].parts.length ≤ 20
            · have hd2 : decide ((20 : Int) < (S.ss[k].parts.length : Int)) = false := by rw [decide_eq_false_iff_not]; omega
              have HZ2 := Lib.hid hpz
              clear hpz
              go_wp2
              go_round
              case rel => exact ⟨k + 1, false, by omega, by go_num, rfl, Lib.hid (fun _ => ⟨HN.out.1, HN.out.2.1, upto_step (p := fun x => x.name.size ≤ 100 ∧ x.parts.length ≤ 20) hlt (HN.out.2.2) ⟨HZ.out, HZ2.out⟩⟩)⟩
              case measure => simp [intOf]; omega
            · have hd2 : decide ((20 : Int) < (S.ss[k].parts.length : Int)) = true := by rw [decide_eq_true_iff]; omega
              clear hpz
              go_wp2
              go_round
              case rel => exact ⟨k + 1, true, by omega, by go_num, rfl, Lib.hid (fun h => by cases h)⟩
              case measure => simp [intOf]; omega
          · have hd : decide ((100 : Int) < (S.ss[k].name.size : Int)) = true := by rw [decide_eq_true_iff]; omega
            clear hsz
            go_wp2
            go_round
            case rel => exact ⟨k + 1, true, by omega, by go_num, rfl, Lib.hid (fun h => by cases h)⟩
            case measure => simp [intOf]; omega
      · have hke : k = S.ss.length := by omega
        have hk2 : ¬ ((k : Int) < (S.ss.length : Int)) := by omega
        have HN2 := hN
        rw [hke] at HN2
        clear hN
        go_wp2
        clear hke hk2 hlt hk
        go_loop [3, 7] (fun u x => ∃ (k : Nat) (b : Bool), k ≤ S.cs.length ∧ x = .int .i64 k ∧ u = .bool b ∧ RowKit.Hid (b = false → (∀ j (h : j < S.ds.length), j < S.ds.length → S.ds[j].name.size ≤ 100) ∧ (∀ j (h : j < S.rs.length), j < S.rs.length → S.rs[j].name.size ≤ 100) ∧ (∀ j (h : j < S.ss.length), j < S.ss.length → S.ss[j].name.size ≤ 100 ∧ S.ss[j].parts.length ≤ 20) ∧ (∀ j (h : j < S.cs.length), j < k → S.cs[j].name.size ≤ 100))) (fun _ x => S.cs.length - (intOf x).toNat)
        case atStart => exact ⟨0, b2, by omega, rfl, rfl, Lib.hid (fun hb => ⟨(HN2.out hb).1, (HN2.out hb).2.1, (HN2.out hb).2.2, fun j _ hj => by omega⟩)⟩
        clear HN2
        obtain ⟨k, b3, hk, rfl, rfl, hN⟩ := hrel
        by_cases hlt : k < S.cs.length
        · obtain ⟨bb, o, c, ev, hbl, r0, _⟩ := HSP.out.cAt k hlt
          cases ev
          have hk2 : (k : Int) < (S.cs.length : Int) := by omega
          cases b3 with
          | true =>
            go_wp2
            go_round
            case rel => exact ⟨k + 1, true, by omega, by go_num, rfl, Lib.hid (fun h => by cases h)⟩
            case measure => simp [intOf]; omega
          | false =>
            have HN := Lib.hid (hN.out rfl)
            clear hN
            by_cases hsz : S.cs[k].name.size ≤ 100
            · have hd : decide ((100 : Int) < (S.cs[k].name.size : Int)) = false := by rw [decide_eq_false_iff_not]; omega
              have HZ := Lib.hid hsz
              clear hsz
              go_wp2
              go_round
              case rel => exact ⟨k + 1, false, by omega, by go_num, rfl, Lib.hid (fun _ => ⟨HN.out.1, HN.out.2.1, HN.out.2.2.1, upto_step (p := fun x => x.name.size ≤ 100) hlt (HN.out.2.2.2) HZ.out⟩)⟩
              case measure => simp [intOf]; omega
            · have hd : decide ((100 : Int) < (S.cs[k].name.size : Int)) = true := by rw [decide_eq_true_iff]; omega
              clear hsz
              go_wp2
              go_round
              case rel => exact ⟨k + 1, true, by omega, by go_num, rfl, Lib.hid (fun h => by cases h)⟩
              case measure => simp [intOf]; omega
        · have hke : k = S.cs.length := by omega
          have hk2 : ¬ ((k : Int) < (S.cs.length : Int)) := by omega
          have HN3 := hN
          rw [hke] at HN3
          clear hN
          go_wp2
          go_ret
          exact farEnds_of (b := b3) rfl (fun h => by
            obtain ⟨n1, n2, n3, n4⟩ := HN3.out h
            exact ⟨by omega, by omega, by omega, by omega, fun x hx => by have := all_of_get (p := fun x => x.name.size ≤ 100) n1 x hx; omega, fun x hx => by have := all_of_get (p := fun x => x.name.size ≤ 100) n2 x hx; omega, fun x hx => by have := (all_of_get (p := fun x => x.name.size ≤ 100 ∧ x.parts.length ≤ 20) n3 x hx).1; omega, fun x hx => by have := all_of_get (p := fun x => x.name.size ≤ 100) n4 x hx; omega, fun x hx => by have := (all_of_get (p := fun x => x.name.size ≤ 100 ∧ x.parts.length ≤ 20) n3 x hx).2; omega⟩) HB.out
theorem far_any (v1 v2 v3 v4 : Value) (S : Sp) (w : World) (f : Nat → Value) (hsp : SpRd w v1 v2 v3 v4 f S) :
    Calls Tryz.prog 25 #[.agg #[v1, v2, v3, v4]] w (FarEnds S w) := by
  obtain ⟨⟨a1, c1, rfl⟩, ⟨a2, c2, rfl⟩, ⟨a3, c3, rfl⟩, ⟨a4, c4, rfl⟩⟩ := hsp.forms
  by_cases h : S.ds.length ≤ 10 ∧ S.rs.length ≤ 50 ∧ S.ss.length ≤ 100 ∧ S.cs.length ≤ 40
  · obtain ⟨l1, l2, l3, l4⟩ := h
    exact far_short a1 a2 a3 a4 c1 c2 c3 c4 S w f hsp l1 l2 l3 l4
  · exact far_long a1 a2 a3 a4 c1 c2 c3 c4 S w (by omega)
end Go.Proofs.YtppccacfdpkkgaaGreatDoor
