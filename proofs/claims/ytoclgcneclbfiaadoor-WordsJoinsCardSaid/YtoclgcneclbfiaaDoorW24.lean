/-
  CONTRACTS: the reference's Split.
-/
import Derived.Test.YtoclgcneclbfiaaDoorW23
import Derived.Test.YtoclgcneclbfiaaDoorW13
import Derived.Test.YtoclgcneclbfiaaDoorW16
import Derived.Test.YtoclgcneclbfiaaDoorW12
namespace Go.Proofs.YtoclgcneclbfiaaDoor
open Go.RowKit
def RSplitEnds (line : ByteArray) (w : World) (e : Ending) (W' : World) : Prop := ∃ (v : Value) (fs : List (Bool × ByteArray)), e = .returned (.tuple #[v, .int .i64 (splitL (L line)).1]) ∧
  (splitL (L line)).2 = fs.map fL ∧ W'.ownsRow w.heap.size 61 2 v fs.length (fcells fs) ∧ Below w.heap.size w W'
theorem rsplit_none {line : ByteArray} {w w' : World} {k : Int} {v : Value} (hv : v = .tuple #[.slice none 0 0, .int .i64 k]) (h : splitL (L line) = (k, [])) (hb : Below w.heap.size w w') : RSplitEnds line w (.returned v) w' :=
  ⟨_, [], by rw [hv, h], by rw [h]; rfl, World.ownsRow_nil _ _ _ _, hb⟩
/-- What has been read up to a place. -/
def Got (s : ByteArray) (k : Nat) (fs : List (Bool × ByteArray)) : Prop := DS (L s) = (DS ((L s).drop k)).map (fs.map fL ++ ·)
theorem got_start (s : ByteArray) : Got s 0 [] := by
  unfold Got
  rw [List.drop_zero]
  cases DS (L s) <;> rfl
theorem got_stop {s : ByteArray} {k : Nat} {fs : List (Bool × ByteArray)} (h : Got s k fs) (hs : s.size ≤ 4096) (hd : DS ((L s).drop k) = none) : splitL (L s) = (6, []) := by
  unfold Got at h
  rw [splitL_ds _ (by rw [L_length]; exact hs), h, hd]
  rfl
theorem got_end {s : ByteArray} {k : Nat} {fs : List (Bool × ByteArray)} (h : Got s k fs) (hs : s.size ≤ 4096) (hk : s.size ≤ k) : splitL (L s) = if 64 < fs.length then (3, []) else (0, fs.map fL) := by
  unfold Got at h
  rw [splitL_ds _ (by rw [L_length]; exact hs), h, drop_end s k hk]
  have e : DS [] = some [] := rfl
  rw [e]
  simp
/-- The step at a place. -/
theorem got_step {s : ByteArray} {k m : Nat} {f : Bool × ByteArray} (hk : k < s.size) (hm : m = k + endN ((L s).drop k)) (hf : fieldOf (L (s.extract k m)) = some (fL f)) :
    DS ((L s).drop k) = if m < s.size ∧ ((L s)[m]? ≠ some 32 ∨ m + 1 = s.size) then none else (DS ((L s).drop (m + 1))).map (fL f :: ·) := by
  have hne : (L s).drop k ≠ [] := by rw [drop_cons s k hk]; simp
  rw [L_extract, show m - k = endN ((L s).drop k) by omega] at hf
  rw [ds_step _ hne]
  unfold stepR
  rw [hf]
  simp only [List.length_drop, L_length, List.drop_drop, List.getElem?_drop]
  rw [show k + endN ((L s).drop k) = m from hm.symm, show k + (endN ((L s).drop k) + 1) = m + 1 by omega]
  have e : (endN ((L s).drop k) < s.size - k ∧ ((L s)[m]? ≠ some 32 ∨ endN ((L s).drop k) + 1 = s.size - k)) ↔ (m < s.size ∧ ((L s)[m]? ≠ some 32 ∨ m + 1 = s.size)) := by
    constructor
    · rintro ⟨h1, h2 | h2⟩
      · exact ⟨by omega, .inl h2⟩
      · exact ⟨by omega, .inr (by omega)⟩
    · rintro ⟨h1, h2 | h2⟩
      · exact ⟨by omega, .inl h2⟩
      · exact ⟨by omega, .inr (by omega)⟩
  by_cases hc : m < s.size ∧ ((L s)[m]? ≠ some 32 ∨ m + 1 = s.size)
  · rw [if_pos hc, if_pos (e.2 hc)]
  · rw [if_neg hc, if_neg (fun h => hc (e.1 h))]
theorem got_bad {s : ByteArray} {k m : Nat} (hk : k < s.size) (hm : m = k + endN ((L s).drop k)) (hf : fieldOf (L (s.extract k m)) = none) : DS ((L s).drop k) = none := by
  have hne : (L s).drop k ≠ [] := by rw [drop_cons s k hk]; simp
  rw [L_extract, show m - k = endN ((L s).drop k) by omega] at hf
  rw [ds_step _ hne]
  exact stepR_none hf
theorem got_next {s : ByteArray} {k m : Nat} {fs : List (Bool × ByteArray)} {f : Bool × ByteArray} (h : Got s k fs) (hd : DS ((L s).drop k) = (DS ((L s).drop (m + 1))).map (fL f :: ·)) : Got s (m + 1) (fs ++ [f]) := by
  unfold Got at *
  rw [h, hd]
  cases DS ((L s).drop (m + 1)) with
  | none => rfl
  | some x => simp
theorem starts_at {s : ByteArray} {k m : Nat} (hk : k < s.size) (hm : k < m) : startsQ (L (s.extract k m)) = decide (s[k] = 34) := by
  rw [L_extract, drop_cons s k hk, show m - k = (m - k - 1) + 1 by omega, List.take_succ_cons, startsQ_cons]
theorem get_at {s : ByteArray} {m : Nat} (h : m < s.size) : (L s)[m]? = some s[m] := by
  rw [List.getElem?_eq_getElem (by rw [L_length]; exact h), L_get s m h]
/-- What follows a field. -/
inductive Next (s : ByteArray) (m : Nat) : Prop where
  | last (h : m = s.size)
  | other (h : m < s.size) (hc : ((s[m].toNat : Int) == 32) = false)
  | hang (h : m + 1 = s.size) (hc : ((s[m].toNat : Int) == 32) = true)
  | more (h : m + 1 < s.size) (hc : ((s[m].toNat : Int) == 32) = true)
theorem next_is (s : ByteArray) (m : Nat) (h : m ≤ s.size) : Next s m := by
  by_cases h1 : m = s.size
  · exact .last h1
  · have hlt : m < s.size := by omega
    cases hc : ((s[m].toNat : Int) == 32) with
    | false => exact .other hlt hc
    | true =>
      by_cases h2 : m + 1 = s.size
      · exact .hang h2 hc
      · exact .more (by omega) hc
theorem take_pos {s : ByteArray} {k m : Nat} (h : bareB (L (s.extract k m)) = true) : k < m := by
  by_cases hk : k < m
  · exact hk
  · rw [L_extract, show m - k = 0 by omega] at h
    exact absurd h (by rw [List.take_zero]; decide)
theorem not32 {c : UInt8} (h : ((c.toNat : Int) == 32) = false) : some c ≠ some 32 := by
  rw [eq32n] at h
  intro e
  simp [Option.some.inj e] at h
theorem is32 {c : UInt8} (h : ((c.toNat : Int) == 32) = true) : c = 32 := by rw [eq32n] at h; simpa using h
theorem step_go {s : ByteArray} {k m : Nat} {f : Bool × ByteArray} (hk : k < s.size) (hm : m = k + endN ((L s).drop k)) (hf : fieldOf (L (s.extract k m)) = some (fL f)) (h : m = s.size ∨ ∃ (hl : m + 1 < s.size), ((s[m].toNat : Int) == 32) = true) :
    DS ((L s).drop k) = (DS ((L s).drop (m + 1))).map (fL f :: ·) := by
  rw [got_step hk hm hf, if_neg]
  rintro ⟨h1, h2⟩
  rcases h with h | ⟨hl, hc⟩
  · omega
  · rcases h2 with h2 | h2
    · rw [get_at h1] at h2
      exact h2 (congrArg some (is32 hc))
    · omega
theorem step_no {s : ByteArray} {k m : Nat} {f : Bool × ByteArray} (hk : k < s.size) (hm : m = k + endN ((L s).drop k)) (hf : fieldOf (L (s.extract k m)) = some (fL f)) (h : (∃ (hl : m < s.size), ((s[m].toNat : Int) == 32) = false) ∨ m + 1 = s.size) :
    DS ((L s).drop k) = none := by
  rw [got_step hk hm hf, if_pos]
  rcases h with ⟨hl, hc⟩ | h
  · exact ⟨hl, .inl (by rw [get_at hl]; exact not32 hc)⟩
  · exact ⟨by omega, .inr h⟩
set_option maxRecDepth 100000 in
set_option maxHeartbeats 6400000 in
theorem rsplit_run (s : ByteArray) (w : World) (hs : s.size ≤ 4096) : Calls Tryd.prog 27 #[.string s] w (RSplitEnds s w) := by
  obtain ⟨i0, hi, hz0, hz1, hz2⟩ := info_parts info61
  go_enter Tryd.func27, Tryd.ntmps27
  go_wp2
  go_loopw [4, 5] (fun v i wr => ∃ (k : Nat) (fs : List (Bool × ByteArray)), k ≤ s.size + 1 ∧ i = .int .i64 k ∧ fs.length ≤ k ∧ RowKit.Hid (Got s k fs) ∧ wr.ownsRow w.heap.size 61 2 v fs.length (fcells fs) ∧ Below w.heap.size w wr) (fun _ i _ => s.size + 1 - (intOf i).toNat)
  case atStart => exact ⟨0, [], by omega, rfl, by simp, Lib.hid (got_start s), World.ownsRow_nil _ _ _ _, Below.refl _ _⟩
  case round =>
    obtain ⟨k, fs, hk, rfl, hfk, hg, hown, hB⟩ := hrel
    by_cases hlt : k < s.size
    · obtain ⟨m, hm⟩ : ∃ m, m = k + endN ((L s).drop k) := ⟨_, rfl⟩
      have hm1 : k ≤ m := by omega
      have hm2 : m ≤ s.size := by have := endN_le ((L s).drop k); rw [List.length_drop, L_length] at this; omega
      have CE := Lib.hid (fun W => rend_any s k m W (by omega) hlt hm)
      have hz : (s.extract k m).size ≤ 4096 := by simp; omega
      by_cases hq : s[k] = 34
      · have hb : ((s[k].toNat : Int) == 34) = true := by rw [eq34n]; simpa using hq
        have hkm : k < m := by
          rw [hm, drop_cons s k hlt, endN, if_pos hq]
          omega
        have HS := Lib.hid (show startsQ (L (s.extract k m)) = true by rw [starts_at hlt hkm]; simpa using hq)
        have CU := Lib.hid (fun W => runquote_any (s.extract k m) W (by omega))
        have HM := Lib.hid hm
        clear hq hm
        cases hu : unquoteL (L (s.extract k m)) with
        | none =>
          have HN := Lib.hid (got_stop hg.out hs (got_bad hlt HM.out (fieldOf_bad HS.out hu)))
          have HU := Lib.hid hu
          clear hu
          go_wp2_with (first | (go_at_call 54; refine (CE.out _).mono ?_; rintro e w' ⟨rfl, rfl⟩) | (go_at_call 21; refine (CU.out _).mono ?_; rw [HU.out]; rintro e w' ⟨rfl, rfl⟩; unfold optS))
          go_ret2
          exact rsplit_none rfl HN.out (hB.alloc hB.size _)
        | some t =>
          obtain ⟨y, hy⟩ := mkL t
          have hyt : textB (L y) = true := by rw [hy]; exact unquote_text hu
          have hyz : y.size ≤ 200 := by have := textB_le hyt; rw [L_length] at this; exact this
          have CU2 : ∀ W, Calls Tryd.prog 21 #[.string (s.extract k m)] W fun e w' => e = .returned (.tuple #[.string y, .int .i64 0]) ∧ W = w' := fun W => by
            have := CU.out W
            rw [hu] at this
            refine this.mono ?_
            rintro e w' ⟨rfl, rfl⟩
            exact ⟨ret_tup (mk_of_L hy) rfl, rfl⟩
          have HF := Lib.hid (show fieldOf (L (s.extract k m)) = some (fL (true, y)) by rw [fieldOf_quoted HS.out hu, ← hy]; rfl)
          have HCU := Lib.hid CU2
          have CR := Lib.hid (fun W => rright_any true y W (by unfold maxLen; omega))
          have HY := Lib.hid hyt
          clear hu hy CU2 hyt
          have hbs := hB.alloc hB.size (.cells #[.bool false, .string (s.extract k m)] 61)
          go_wp2_with (first | (go_at_call 54; refine (CE.out _).mono ?_; rintro e w' ⟨rfl, rfl⟩) | (go_at_call 21; refine (HCU.out _).mono ?_; rintro e w' ⟨rfl, rfl⟩))
          refine (CR.out _).mono ?_
          rintro e w2 ⟨rfl, hb2⟩
          rw [show rightB true (L y) = true from HY.out]
          have hb1 : Below wr.heap.size wr w2 := ((Below.refl _ wr).alloc (Nat.le_refl _) _).trans (hb2.mono (by simp))
          have kx : Blk w2 wr.heap.size 61 #[.bool true, .string y] := (Blk.new wr 61 _).below hb2
          have hB2 := below_step hB hb1
          have hown2 := row_later hown hb1
          obtain ⟨cA, cB, fA, fB⟩ := kx.two
          have hz2' := hb1.size
          have hBs := hB.size
          clear hb2 hown hb1 hbs
          rcases next_is s m hm2 with h | ⟨h, hc⟩ | ⟨h, hc⟩ | ⟨h, hc⟩
          · have HG := Lib.hid (got_next hg.out (step_go hlt HM.out HF.out (.inl h)))
            have h1 : ¬ m < s.size := by omega
            clear h
            go_wp2_with (at_builtin; refine wpList_append_lies _ rfl _ _ 36 rfl w.heap.size 61 i0 _ 2 24 Tryd.underlying36 hi hz0 hz1 hz2 rfl (by omega) _ fs.length (fcells fs) rfl (hown2.alloc _) ⟨w2.heap.size, 0, none⟩ 1 1 [.bool true, .string y] rfl rfl (World.news_of_block (cs := #[.bool true, .string y]) (t := 61) (fr := (0, 0)) (heap_alloc_new w2 _)) (by simp [Value.oneCell']) (by omega) (by unfold maxLen; omega) (by omega) (by simp; omega) (w2.heap.size + 1) (by simp) ?_; intro gg cap w3 hown3 hgrow hat3 hlt3)
            have hB3 := (hB2.alloc hB2.size (.cells #[.bool true, .string y] 61)).grown hgrow (by simp; omega) (fun j e => row_ge hown2 e)
            go_roundw
            case rel => exact ⟨m + 1, fs ++ [(true, y)], by omega, by go_num, by simp; omega, HG, by rw [fcells_snoc, List.length_append]; exact hown3, hB3⟩
            case measure => simp [intOf]; omega
          · have HN := Lib.hid (got_stop hg.out hs (step_no hlt HM.out HF.out (.inl ⟨h, hc⟩)))
            have hc2 : ¬ (s[m].toNat : Int) = 32 := beq_eq_false_iff_ne.1 hc
            clear hc
            go_wp2
            go_ret2
            exact rsplit_none rfl HN.out hB2
          · have HN := Lib.hid (got_stop hg.out hs (step_no hlt HM.out HF.out (.inr h)))
            have h1 : m < s.size := by omega
            have hc2 : (s[m].toNat : Int) = 32 := beq_iff_eq.1 hc
            have h2 : ((m : Int) + 1 == (s.size : Int)) = true := by rw [beq_iff_eq]; omega
            clear h hc
            go_wp2
            go_ret2
            exact rsplit_none rfl HN.out hB2
          · have HG := Lib.hid (got_next hg.out (step_go hlt HM.out HF.out (.inr ⟨h, hc⟩)))
            have h1 : m < s.size := by omega
            have hc2 : (s[m].toNat : Int) = 32 := beq_iff_eq.1 hc
            have h2 : ((m : Int) + 1 == (s.size : Int)) = false := by rw [beq_eq_false_iff_ne]; omega
            clear hc
            go_wp2_with (at_builtin; refine wpList_append_lies _ rfl _ _ 36 rfl w.heap.size 61 i0 _ 2 24 Tryd.underlying36 hi hz0 hz1 hz2 rfl (by omega) _ fs.length (fcells fs) rfl (hown2.alloc _) ⟨w2.heap.size, 0, none⟩ 1 1 [.bool true, .string y] rfl rfl (World.news_of_block (cs := #[.bool true, .string y]) (t := 61) (fr := (0, 0)) (heap_alloc_new w2 _)) (by simp [Value.oneCell']) (by omega) (by unfold maxLen; omega) (by omega) (by simp; omega) (w2.heap.size + 1) (by simp) ?_; intro gg cap w3 hown3 hgrow hat3 hlt3)
            have hB3 := (hB2.alloc hB2.size (.cells #[.bool true, .string y] 61)).grown hgrow (by simp; omega) (fun j e => row_ge hown2 e)
            go_roundw
            case rel => exact ⟨m + 1, fs ++ [(true, y)], by omega, by go_num, by simp; omega, HG, by rw [fcells_snoc, List.length_append]; exact hown3, hB3⟩
            case measure => simp [intOf]; omega
      · have hb : ((s[k].toNat : Int) == 34) = false := by rw [eq34n]; simpa using hq
        have HQ := Lib.hid hq
        have HM := Lib.hid hm
        clear hq hm
        cases hbare : bareB (L (s.extract k m)) with
        | false =>
          have CR := Lib.hid (fun W => rright_any false (s.extract k m) W (by unfold maxLen; omega))
          have HB := Lib.hid hbare
          have HN := Lib.hid (got_stop hg.out hs (got_bad hlt HM.out (by
            by_cases hkm : k < m
            · exact fieldOf_none (by rw [starts_at hlt hkm]; simpa using HQ.out) hbare
            · rw [L_extract, show m - k = 0 by omega]
              rfl)))
          clear hbare
          go_wp2_with (go_at_call 54; refine (CE.out _).mono ?_; rintro e w' ⟨rfl, rfl⟩)
          refine (CR.out _).mono ?_
          rintro e w2 ⟨rfl, hb2⟩
          rw [show rightB false (L (s.extract k m)) = false from HB.out]
          have hb1 : Below wr.heap.size wr w2 := ((Below.refl _ wr).alloc (Nat.le_refl _) _).trans (hb2.mono (by simp))
          have hB2 := below_step hB hb1
          go_wp2
          go_ret2
          exact rsplit_none rfl HN.out hB2
        | true =>
          have CR := Lib.hid (fun W => rright_any false (s.extract k m) W (by unfold maxLen; omega))
          have HB := Lib.hid hbare
          have hkm := take_pos hbare
          have HF := Lib.hid (show fieldOf (L (s.extract k m)) = some (fL (false, s.extract k m)) from fieldOf_bare (by rw [starts_at hlt hkm]; simpa using HQ.out) hbare)
          clear hbare
          go_wp2_with (go_at_call 54; refine (CE.out _).mono ?_; rintro e w' ⟨rfl, rfl⟩)
          refine (CR.out _).mono ?_
          rintro e w2 ⟨rfl, hb2⟩
          rw [show rightB false (L (s.extract k m)) = true from HB.out]
          have hb1 : Below wr.heap.size wr w2 := ((Below.refl _ wr).alloc (Nat.le_refl _) _).trans (hb2.mono (by simp))
          have kx : Blk w2 wr.heap.size 61 #[.bool false, .string (s.extract k m)] := (Blk.new wr 61 _).below hb2
          have hB2 := below_step hB hb1
          have hown2 := row_later hown hb1
          obtain ⟨cA, cB, fA, fB⟩ := kx.two
          have hz2' := hb1.size
          have hBs := hB.size
          clear hb2 hown hb1
          rcases next_is s m hm2 with h | ⟨h, hc⟩ | ⟨h, hc⟩ | ⟨h, hc⟩
          · have HG := Lib.hid (got_next hg.out (step_go hlt HM.out HF.out (.inl h)))
            have h1 : ¬ m < s.size := by omega
            clear h
            go_wp2_with (at_builtin; refine wpList_append_lies _ rfl _ _ 36 rfl w.heap.size 61 i0 _ 2 24 Tryd.underlying36 hi hz0 hz1 hz2 rfl (by omega) _ fs.length (fcells fs) rfl (hown2.alloc _) ⟨w2.heap.size, 0, none⟩ 1 1 [.bool false, .string (s.extract k m)] rfl rfl (World.news_of_block (cs := #[.bool false, .string (s.extract k m)]) (t := 61) (fr := (0, 0)) (heap_alloc_new w2 _)) (by simp [Value.oneCell']) (by omega) (by unfold maxLen; omega) (by omega) (by simp; omega) (w2.heap.size + 1) (by simp) ?_; intro gg cap w3 hown3 hgrow hat3 hlt3)
            have hB3 := (hB2.alloc hB2.size (.cells #[.bool false, .string (s.extract k m)] 61)).grown hgrow (by simp; omega) (fun j e => row_ge hown2 e)
            go_roundw
            case rel => exact ⟨m + 1, fs ++ [(false, (s.extract k m))], by omega, by go_num, by simp; omega, HG, by rw [fcells_snoc, List.length_append]; exact hown3, hB3⟩
            case measure => simp [intOf]; omega
          · have HN := Lib.hid (got_stop hg.out hs (step_no hlt HM.out HF.out (.inl ⟨h, hc⟩)))
            have hc2 : ¬ (s[m].toNat : Int) = 32 := beq_eq_false_iff_ne.1 hc
            clear hc
            go_wp2
            go_ret2
            exact rsplit_none rfl HN.out hB2
          · have HN := Lib.hid (got_stop hg.out hs (step_no hlt HM.out HF.out (.inr h)))
            have h1 : m < s.size := by omega
            have hc2 : (s[m].toNat : Int) = 32 := beq_iff_eq.1 hc
            have h2 : ((m : Int) + 1 == (s.size : Int)) = true := by rw [beq_iff_eq]; omega
            clear h hc
            go_wp2
            go_ret2
            exact rsplit_none rfl HN.out hB2
          · have HG := Lib.hid (got_next hg.out (step_go hlt HM.out HF.out (.inr ⟨h, hc⟩)))
            have h1 : m < s.size := by omega
            have hc2 : (s[m].toNat : Int) = 32 := beq_iff_eq.1 hc
            have h2 : ((m : Int) + 1 == (s.size : Int)) = false := by rw [beq_eq_false_iff_ne]; omega
            clear hc
            go_wp2_with (at_builtin; refine wpList_append_lies _ rfl _ _ 36 rfl w.heap.size 61 i0 _ 2 24 Tryd.underlying36 hi hz0 hz1 hz2 rfl (by omega) _ fs.length (fcells fs) rfl (hown2.alloc _) ⟨w2.heap.size, 0, none⟩ 1 1 [.bool false, .string (s.extract k m)] rfl rfl (World.news_of_block (cs := #[.bool false, .string (s.extract k m)]) (t := 61) (fr := (0, 0)) (heap_alloc_new w2 _)) (by simp [Value.oneCell']) (by omega) (by unfold maxLen; omega) (by omega) (by simp; omega) (w2.heap.size + 1) (by simp) ?_; intro gg cap w3 hown3 hgrow hat3 hlt3)
            have hB3 := (hB2.alloc hB2.size (.cells #[.bool false, .string (s.extract k m)] 61)).grown hgrow (by simp; omega) (fun j e => row_ge hown2 e)
            go_roundw
            case rel => exact ⟨m + 1, fs ++ [(false, (s.extract k m))], by omega, by go_num, by simp; omega, HG, by rw [fcells_snoc, List.length_append]; exact hown3, hB3⟩
            case measure => simp [intOf]; omega
    · have HE := Lib.hid (got_end hg.out hs (by omega))
      obtain ⟨a, c, rfl⟩ := (FRead.of_row hown).form
      by_cases h5 : 64 < fs.length
      · have HR2 := Lib.hid (show splitL (L s) = (3, []) by rw [HE.out, if_pos h5])
        go_wp2
        go_ret2
        exact rsplit_none rfl HR2.out hB
      · have HR2 := Lib.hid (show splitL (L s) = (0, fs.map fL) by rw [HE.out, if_neg h5])
        go_wp2
        go_ret2
        exact ⟨_, fs, by rw [HR2.out]; rfl, by rw [HR2.out], hown, hB⟩
set_option maxHeartbeats 400000 in
theorem rsplit_any (s : ByteArray) (w : World) (hs : s.size ≤ 1000000) : Calls Tryd.prog 27 #[.string s] w (RSplitEnds s w) := by
  by_cases h : s.size ≤ 4096
  · exact rsplit_run s w h
  · have HS := Lib.hid (show splitL (L s) = (3, []) by unfold splitL; rw [if_pos (by rw [L_length]; omega)])
    go_enter Tryd.func27, Tryd.ntmps27
    go_wp2
    go_ret2
    exact rsplit_none rfl HS.out (Below.refl _ _)
end Go.Proofs.YtoclgcneclbfiaaDoor
