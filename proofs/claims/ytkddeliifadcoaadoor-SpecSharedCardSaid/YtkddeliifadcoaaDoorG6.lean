/-
  WHAT SpecShared NEEDS: all pipes of a stop; membership; appending a list that was handed back.
-/
import Derived.Test.YtkddeliifadcoaaDoorG5
import Derived.Test.YtkddeliifadcoaaDoorOpenS
namespace Go.Proofs.YtkddeliifadcoaaDoor
open Go.RowKit
/-- What the keys below k of a stop play, key by key. -/
def pl (S : Sp) (i : Nat) : Nat → List Pp
  | 0 => []
  | k + 1 => pl S i k ++ (pipesOfP S i k).1
theorem mem_pl {S : Sp} {i : Nat} {p : Pp} : ∀ {k : Nat}, p ∈ pl S i k ↔ ∃ j : Nat, j < k ∧ p ∈ (pipesOfP S i j).1
  | 0 => by simp [pl]
  | k + 1 => by
    rw [pl, List.mem_append, mem_pl]
    constructor
    · rintro (⟨j, h1, h2⟩ | h)
      · exact ⟨j, by omega, h2⟩
      · exact ⟨k, by omega, h⟩
    · rintro ⟨j, h1, h2⟩
      by_cases e : j = k
      · subst e; exact .inr h2
      · exact .inl ⟨j, by omega, h2⟩
theorem pipesOf_two {S : Sp} (hz : (checkP S).2 = 0) {i : Nat} (hi : i < S.ss.length) (key : Int) : ((pipesOfP S i key).2 = 0 ∨ (pipesOfP S i key).2 = 7) ∧ (pipesOfP S i key).1.length ≤ 97 * 40 := by
  have g := spGood hz
  obtain ⟨d1, d2, d3, d4⟩ := g.s _ (List.getElem_mem hi)
  obtain ⟨j, hj⟩ := Int.eq_ofNat_of_zero_le d1
  rw [pipesOf_key hz hi hj (by omega)]
  have hl := allFrom_len g.r 0
  have h1 := g.rs
  split
  · have := List.length_filter_le (playsB S.ss[i] key) (allFrom 0 S.rs)
    exact ⟨.inl rfl, by show (List.filter _ _).length ≤ _; omega⟩
  · exact ⟨.inr rfl, Nat.zero_le _⟩
theorem pl_len {S : Sp} (hz : (checkP S).2 = 0) {i : Nat} (hi : i < S.ss.length) : ∀ {k : Nat}, (pl S i k).length ≤ k * 3880
  | 0 => by simp [pl]
  | k + 1 => by
    have h1 := pl_len hz hi (k := k)
    have h2 := (pipesOf_two hz hi k).2
    rw [pl, List.length_append]
    omega
/-- All keys of a stop together play what it uses. -/
theorem pl_uses {S : Sp} (hz : (checkP S).2 = 0) {i : Nat} (hi : i < S.ss.length) (p : Pp) : p ∈ pl S i 128 ↔ usesAt S.ss i p = true := by
  have g := spGood hz
  have hx := List.getElem_mem hi
  obtain ⟨d1, d2, d3, d4⟩ := g.s _ hx
  obtain ⟨j, hj⟩ := Int.eq_ofNat_of_zero_le d1
  have hjl : j < S.ds.length := by omega
  have hdv := dv_ok (g.d _ (List.getElem_mem hjl))
  rw [mem_pl, usesAt_is hi]
  constructor
  · rintro ⟨key, hk, h⟩
    rw [pipesOf_key hz hi hj hjl] at h
    split at h
    · have h2 := (List.mem_filter.1 h).2
      unfold playsB at h2
      rw [List.any_eq_true] at h2
      obtain ⟨y, hy, h3⟩ := h2
      simp only [decide_eq_true_eq] at h3
      unfold usesB holdsB
      rw [List.any_eq_true]
      exact ⟨y, hy, decide_eq_true ⟨h3.1, by omega, by omega⟩⟩
    · cases h
  · intro h
    have hin := uses_in g hx h
    unfold usesB at h
    rw [List.any_eq_true] at h
    obtain ⟨y, hy, h⟩ := h
    unfold holdsB at h
    simp only [decide_eq_true_eq] at h
    have hp := g.p _ hx y hy
    have hlh : S.ds[j].lo ≤ y.lo ∧ y.hi ≤ S.ds[j].hi := by
      unfold ptE at hp
      split at hp
      · next hr =>
        rw [hj] at hp
        simp only [Int.toNat_natCast, List.getElem?_eq_getElem hjl, List.getElem?_eq_getElem (show y.rank.toNat < S.rs.length by omega)] at hp
        split at hp
        · omega
        · cases hp
      · cases hp
    refine ⟨(p.2 - y.shift).toNat, by omega, ?_⟩
    rw [show (((p.2 - y.shift).toNat : Nat) : Int) = p.2 - y.shift by omega, pipesOf_key hz hi hj hjl, if_pos ⟨by omega, by omega⟩]
    refine List.mem_filter.2 ⟨hin, ?_⟩
    unfold playsB
    rw [List.any_eq_true]
    exact ⟨y, hy, decide_eq_true ⟨h.1, by omega, by omega, by omega⟩⟩
/-- Appending a list of pipes that can be read, none among them too. -/
theorem run_append_pps (w : World) (base : Nat) (ty : TypeId) (v : Value) (n : Nat) (xs : List Value) (hown : w.ownsRow base 46 2 v n xs) (l : List Pp) (A : Option Addr) (c : Nat) (hx : ARd w (.slice A l.length c) 2 (l.map ppC)) (hn : n + l.length ≤ 1000000) (hb : base ≤ w.heap.size) :
    ∃ v' w', (Builtin.append_ #[37, 37] ty #[v, .slice A l.length c]).run Tryd.prog w = .ok v' w' ∧ w'.ownsRow base 46 2 v' (n + l.length) (xs ++ ppCs l) ∧ w.grownBy w' v.ownBlock ∧ (v'.ownBlock = v.ownBlock ∨ v'.ownBlock = some w.heap.size) := by
  obtain ⟨i0, hi, hz0, hz1, hz2⟩ := info_parts pp_info
  cases A with
  | none =>
    have hl : l = [] := by
      cases l with
      | nil => rfl
      | cons a l =>
        obtain ⟨b, o, c', e, _⟩ := hx.at 0 (by simp)
        cases e
    subst hl
    refine ⟨v, w, ?_, by simpa [ppCs] using hown, World.grownBy.refl w _, .inl rfl⟩
    rcases hown.2 with ⟨rfl, rfl⟩ | ⟨g, cap, cur, rfl, _, _, hnc, _⟩
    · simp [Builtin.append_, run_underlying Tryd.underlying37, Go.sizeOf, typeInfo, hi, Builtin.lenOf, Builtin.firstCells]
    · simp [Builtin.append_, run_underlying Tryd.underlying37, Go.sizeOf, typeInfo, hi, Builtin.lenOf, Builtin.firstCells, hnc, storeCells]
  | some ad =>
    have hcells : ∀ j u, (ppCs l)[j]? = some u → w.cell? (ad.add j) = some u := by
      intro j u hu
      have hj : j < (ppCs l).length := (List.getElem?_eq_some_iff.1 hu).1
      rw [ppCs_len] at hj
      obtain ⟨b, o, c', e, _, hc⟩ := hx.at (j / 2) (by rw [List.length_map]; omega)
      rw [List.getElem_map] at hc
      rw [List.length_map] at e
      cases e
      obtain ⟨h0, h1⟩ := ppCs_get (show j / 2 < l.length by omega)
      rw [add_at]
      rcases (show j % 2 = 0 ∨ j % 2 = 1 by omega) with q | q
      · rw [show j = j / 2 * 2 by omega, h0] at hu
        cases hu
        have := hc 0 _ rfl
        rw [show o + j = o + j / 2 * 2 + 0 by omega]
        exact this
      · rw [show j = j / 2 * 2 + 1 by omega, h1] at hu
        cases hu
        have := hc 1 _ rfl
        rw [show o + j = o + j / 2 * 2 + 1 by omega]
        exact this
    obtain ⟨v', w', hrun, h2, h3, _, h5⟩ := run_append_own_at (P := Tryd.prog) w base 37 ty 46 i0 _ 2 16 Tryd.underlying37 hi hz0 hz1 hz2 rfl (by omega) v n xs hown ad l.length c (ppCs l) (ppCs_len l) hcells (by
      intro u hu
      unfold ppCs at hu
      rw [List.mem_flatten] at hu
      obtain ⟨r, hr, hur⟩ := hu
      obtain ⟨p, _, rfl⟩ := List.mem_map.1 hr
      simp only [ppC, List.mem_cons, List.mem_nil_iff, or_false] at hur
      rcases hur with rfl | rfl <;> rfl) (by unfold maxLen; omega) (by omega) hb
    exact ⟨v', w', hrun, h2, h3, h5⟩
theorem wpList_append_pps (w : World) {ops : Array Oper} {rest : List Oper} {o : Oper} {a : Act} {Q : Exit → Act → World → Prop} (hgd : o.guard = none) (s x : Operand)
    (ho : o.op = .call { callee := .builtin .append, args := #[s, x], argTypes := #[37, 37] }) (base : Nat) (v : Value) (n : Nat) (xs : List Value) (hs : a.eval s = v) (hown : w.ownsRow base 46 2 v n xs)
    (l : List Pp) (A : Option Addr) (c m : Nat) (hm : m = l.length) (hx : a.eval x = .slice A m c) (hr : ARd w (.slice A m c) 2 (l.map ppC)) (hn : n + l.length ≤ 1000000) (hb : base ≤ w.heap.size)
    (h : ∀ v' w', w'.ownsRow base 46 2 v' (n + l.length) (xs ++ ppCs l) → w.grownBy w' v.ownBlock → (v'.ownBlock = v.ownBlock ∨ v'.ownBlock = some w.heap.size) → wpList Tryd.prog ops Q rest (a.put o.dst v') w') : wpList Tryd.prog ops Q (o :: rest) a w := by
  subst hm
  refine wpList_plain hgd fun K hK => ?_
  obtain ⟨v', w', hrun, h2, h3, h4⟩ := run_append_pps w base o.type v n xs hown l A c hr hn hb
  unfold Oper.wp execOp
  simp only [ho, resolve, invoke, builtin, Sem.run_bind, Sem.run_pure, Result.andThen_ok, List.map_toArray, List.map_cons, List.map_nil, hs, hx, hrun]
  exact hK _ _ (h v' w' h2 h3 h4)
set_option maxRecDepth 100000 in
set_option maxHeartbeats 3200000 in
theorem in_any (l : List Pp) (v : Value) (p : Pp) (w : World) (hv : ARd w v 2 (l.map ppC)) (hl : l.length ≤ 1000000) :
    Calls Tryd.prog 18 #[v, .agg #[.int .i64 p.1, .int .i64 p.2]] w fun e w' => e = .returned (.bool (decide (p ∈ l))) ∧ Below w.heap.size w w' := by
  obtain ⟨a, c, ev⟩ := hv.form
  rw [List.length_map] at ev
  subst ev
  have HV := Lib.hid hv
  have hb0 : Below w.heap.size w (w.alloc (.cells #[.int .i64 p.1, .int .i64 p.2] 46)) := (Below.refl _ w).alloc (Nat.le_refl _) _
  have k0 : Blk (w.alloc (.cells #[.int .i64 p.1, .int .i64 p.2] 46)) w.heap.size 46 #[.int .i64 p.1, .int .i64 p.2] := Blk.new w _ _
  obtain ⟨W0, hW0⟩ : ∃ W0, W0 = w.alloc (.cells #[.int .i64 p.1, .int .i64 p.2] 46) := ⟨_, rfl⟩
  rw [← hW0] at hb0 k0
  have HB0 := Lib.hid hb0
  have HK0 := Lib.hid k0
  have HW0 := Lib.hid hW0
  have hrefl : RowKit.Hid (Below W0.heap.size W0 W0) := Lib.hid (Below.refl _ _)
  clear hb0 k0 hW0 hv
  go_enter Tryd.func18, Tryd.ntmps18
  go_wp2
  rw [← HW0.out]
  go_loopw [5] (fun x wr => ∃ k : Nat, k ≤ l.length ∧ x = .int .i64 k ∧ RowKit.Hid (p ∉ l.take k) ∧ RowKit.Hid (Below W0.heap.size W0 wr)) (fun x _ => l.length - (intOf x).toNat)
  case atStart => exact ⟨0, by omega, rfl, Lib.hid (by simp), hrefl⟩
  obtain ⟨k, hk, rfl, hE, hW⟩ := hrel
  by_cases hlt : k < l.length
  · obtain ⟨b, o, c', ev', hbl, hc⟩ := (HV.out.later (below_step HB0.out hW.out)).at k (by simpa using hlt)
    rw [List.getElem_map] at hc
    rw [List.length_map] at ev'
    cases ev'
    have q0 : wr.cell? ⟨b, o + k * 2, none⟩ = some (.int .i64 l[k].1) := hc 0 _ rfl
    have q1 : wr.cell? ⟨b, o + k * 2 + 1, none⟩ = some (.int .i64 l[k].2) := hc 1 _ rfl
    obtain ⟨c0, c1, _, _⟩ := (HK0.out.below hW.out).two
    have hk2 : (k : Int) < (l.length : Int) := by omega
    by_cases he : l[k] = p
    · have hq := eqPp (decide_eq_true he)
      have HT := Lib.hid (show decide (p ∈ l) = true from decide_eq_true (by rw [← he]; exact List.getElem_mem hlt))
      have HBE := Lib.hid (below_step HB0.out hW.out)
      clear he hc
      go_wp2_with fail
      go_quiet (fail)
      go_wp2
      go_ret
      exact ⟨by rw [HT.out]; rfl, below_drewN HBE.out _⟩
    · have hq := eqPp (decide_eq_false he)
      have HNE := Lib.hid (show p ∉ l.take (k + 1) by
        rw [List.take_succ_eq_append_getElem hlt, List.mem_append, List.mem_singleton]
        rintro (h | h)
        · exact hE.out h
        · exact he h.symm)
      clear he hc
      go_wp2_with fail
      go_quiet (fail)
      go_wp2
      go_roundw
      case rel => exact ⟨k + 1, by omega, by go_num, HNE, Lib.hid (below_drewN hW.out _)⟩
      case measure => simp [intOf]; omega
  · have hke : k = l.length := by omega
    have hk2 : ¬ ((k : Int) < (l.length : Int)) := by omega
    have HF : RowKit.Hid (decide (p ∈ l) = false) := by
      have := hE.out
      rw [hke, List.take_length] at this
      exact Lib.hid (decide_eq_false this)
    have HBE := Lib.hid (below_step HB0.out hW.out)
    clear hE hke
    go_wp2
    go_ret
    exact ⟨by rw [HF.out]; rfl, HBE.out⟩
end Go.Proofs.YtkddeliifadcoaaDoor
