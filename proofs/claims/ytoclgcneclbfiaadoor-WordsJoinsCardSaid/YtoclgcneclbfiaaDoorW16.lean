/-
  CONTRACTS: Lines and the reference's Lines.
-/
import Derived.Test.YtoclgcneclbfiaaDoorPlainL
import Derived.Test.YtoclgcneclbfiaaDoorW11
import Derived.Test.YtoclgcneclbfiaaDoorW13
namespace Go.Proofs.YtoclgcneclbfiaaDoor
open Go.RowKit

/-- What Lines says. -/
def linesR (l : List UInt8) : Int × List (List UInt8) :=
  if 1048576 < l.length then (3, []) else if l = [] then (0, []) else if l.getLast? ≠ some 10 then (6, []) else if 5000 < l.count 10 then (3, []) else (0, lns [] l)
/-- A slice of strings that can be read. -/
def SRead (w : World) (v : Value) (ps : List ByteArray) : Prop :=
  ∃ a c, v = .slice a ps.length c ∧ ∀ i (h : i < ps.length), ∃ b o, a = some ⟨b, o, none⟩ ∧ w.cell? ⟨b, o + i, none⟩ = some (.string ps[i])
theorem SRead.later {w w' : World} {v : Value} {ps : List ByteArray} (h : SRead w v ps) (hb : Below w.heap.size w w') : SRead w' v ps := by
  obtain ⟨a, c, rfl, hr⟩ := h
  refine ⟨a, c, rfl, fun i hi => ?_⟩
  obtain ⟨b, o, ha, hc⟩ := hr i hi
  exact ⟨b, o, ha, (hb.cell (cell_size hc)).trans hc⟩
theorem sread_none (w : World) : SRead w (.slice none 0 0) [] := ⟨_, _, rfl, fun i hi => absurd hi (Nat.not_lt_zero i)⟩
theorem SRead.of_row {W : World} {base : Nat} {t : TypeId} {v : Value} {ps : List ByteArray} (h : W.ownsRow base t 1 v ps.length (ps.map Value.string)) : SRead W v ps := by
  obtain ⟨_, ⟨rfl, h0⟩ | ⟨g, cap, cur, rfl, _, hg, _, _, _, hx⟩⟩ := h
  · have := List.length_eq_zero_iff.1 h0
    subst this
    exact sread_none W
  · refine ⟨_, _, rfl, fun i hi => ⟨g, 0, rfl, ?_⟩⟩
    have hj : (ps.map Value.string)[i]? = some (.string ps[i]) := by simp [hi]
    rw [← hx, List.getElem?_take] at hj
    split at hj
    · simp only [World.cell?, hg, Nat.zero_add]
      simpa using hj
    · cases hj
theorem SRead.of_alloc (w : World) (ps : List ByteArray) (t : TypeId) (c : Nat) : SRead (w.alloc (.cells (ps.map Value.string).toArray t)) (.slice (some ⟨w.heap.size, 0, none⟩) ps.length c) ps := by
  refine ⟨_, _, rfl, fun i hi => ⟨w.heap.size, 0, rfl, ?_⟩⟩
  have e : (w.alloc (.cells (ps.map Value.string).toArray t)).heap[w.heap.size]? = some (.cells (ps.map Value.string).toArray t (0, 0)) := heap_alloc_new _ _
  unfold World.cell?
  simp only [e]
  simp [hi]
/-- How both end. -/
def SEnds (s : ByteArray) (w : World) (e : Ending) (w' : World) : Prop :=
  ∃ (v : Value) (ps : List ByteArray), e = .returned (.tuple #[v, .int .i64 (linesR (L s)).1]) ∧ ps.map L = (linesR (L s)).2 ∧ SRead w' v ps ∧ Below w.heap.size w w'
theorem sends_none {s : ByteArray} {w w' : World} {k : Int} {v : Value} (hv : v = .tuple #[.slice none 0 0, .int .i64 k]) (h : linesR (L s) = (k, [])) (hb : Below w.heap.size w w') : SEnds s w (.returned v) w' :=
  ⟨_, [], by rw [hv, h], by rw [h]; rfl, sread_none _, hb⟩
theorem suffix_last (l : List UInt8) : Lib.hasSuffix l [10] = decide (l.getLast? = some 10) := by
  unfold Lib.hasSuffix
  rw [Bool.eq_iff_iff, List.isSuffixOf_iff_suffix, decide_eq_true_eq]
  constructor
  · rintro ⟨t, rfl⟩
    simp
  · intro h
    obtain ⟨t, ht⟩ := List.getLast?_eq_some_iff.1 h
    exact ⟨t, ht.symm⟩
theorem last_at {s : ByteArray} (h : 0 < s.size) : (L s).getLast? = some s[s.size - 1] := by
  rw [List.getLast?_eq_getElem?, L_length, List.getElem?_eq_getElem (by rw [L_length]; omega), L_get s _ (by omega)]
theorem front_size {s : ByteArray} {t : List UInt8} (h : L s = t ++ [10]) : L (s.extract 0 (s.size - 1)) = t := by
  have hl := L_length s
  rw [h] at hl
  simp at hl
  rw [L_extract, h, List.drop_zero, List.take_append_of_le_length (by omega), List.take_of_length_le (by omega)]
theorem count_byte (s : ByteArray) (c : UInt8) : Lib.countByte s.data.toList c = (L s).count c := rfl
set_option maxHeartbeats 1600000 in
theorem lines_any (s : ByteArray) (w : World) (t : Tabs w) (hs : s.size ≤ 1048676) : Calls Tryd.prog 32 #[.string s] w (SEnds s w) := by
  have hl := L_length s
  by_cases h1 : 1048576 < s.size
  · have HR := Lib.hid (show linesR (L s) = (3, []) by unfold linesR; rw [if_pos (by omega)])
    clear hl
    go_enter Tryd.func32, Tryd.ntmps32
    go_wp2
    go_ret2
    exact sends_none rfl HR.out (Below.refl _ _)
  by_cases h2 : s.toList = []
  · have hz := (toList_nil s).1 h2
    have HR := Lib.hid (show linesR (L s) = (0, []) by unfold linesR; rw [if_neg (by omega), if_pos (by rw [← List.length_eq_zero_iff]; omega)])
    clear hl hz
    have h3 : s.toList.isEmpty = true := by rw [h2]; rfl
    go_enter Tryd.func32, Tryd.ntmps32
    go_wp2
    all_goals go_ret2
    exact sends_none rfl HR.out (Below.refl _ _)
  · have hz : s.size ≠ 0 := fun e => h2 ((toList_nil s).2 e)
    have hne : L s ≠ [] := by rw [ne_eq, ← List.length_eq_zero_iff]; omega
    have hx := suffix_last (L s)
    have hm : s.size ≤ 9223372036854775807 := by omega
    by_cases hlast : (L s).getLast? = some 10
    · rw [decide_eq_true hlast] at hx
      have C1 := Lib.hid (fun W => Tryd.strings_HasSuffix s ⟨#[10]⟩ W hm)
      have hx2 : Lib.hasSuffix s.data.toList ((⟨#[10]⟩ : ByteArray).data.toList) = true := hx
      rw [hx2] at C1
      obtain ⟨tt, ht⟩ := List.getLast?_eq_some_iff.1 hlast
      by_cases hc : 5000 < (L s).count 10
      · have HR := Lib.hid (show linesR (L s) = (3, []) by unfold linesR; rw [if_neg (by omega), if_neg hne, if_neg (by simpa using hlast), if_pos hc])
        have C2 := Lib.hid (fun W => Tryd.strings_Count_one s 10 W)
        rw [count_byte] at C2
        generalize (L s).count 10 = n at hc C2
        clear hl hz hne hx hlast ht hx2
        have h3 : s.toList.isEmpty = false := by simpa using h2
        go_enter Tryd.func32, Tryd.ntmps32
        go_wp2_with (first | (go_at_call 57; refine (C1.out _).mono ?_; rintro e w' ⟨rfl, rfl⟩) | (go_at_call 58; refine (C2.out _).mono ?_; rintro e w' ⟨rfl, rfl⟩))
        go_ret2
        exact sends_none rfl HR.out (Below.refl _ _)
      · have HR := Lib.hid (show linesR (L s) = (0, lns [] (L s)) by unfold linesR; rw [if_neg (by omega), if_neg hne, if_neg (by simpa using hlast), if_neg hc])
        have C2 := Lib.hid (fun W => Tryd.strings_Count_one s 10 W)
        rw [count_byte] at C2
        generalize (L s).count 10 = n at hc C2
        obtain ⟨x, hxx⟩ : ∃ x, x = s.extract 0 (s.size - 1) := ⟨_, rfl⟩
        have hxt : L x = tt := by rw [hxx]; exact front_size ht
        have hxz : x.size < 4294967281 := by rw [hxx]; simp; omega
        obtain ⟨m, hm2⟩ := t.mlen
        have hps : (Lib.splitB ⟨#[10]⟩ 0 (Lib.countB x ⟨#[10]⟩) x).map L = lns [] (L s) := by
          rw [ht, lns_nil, ← splitK_spl tt, ← hxt]
          exact Lib.splitB_data ⟨#[10]⟩ 0 _ x
        have hpl := Lib.splitB_all ⟨#[10]⟩ (by decide) 0 _ x rfl
        have C3 := Lib.hid (fun W (hW : W.cell? ⟨2, 0, none⟩ = some (.int .i64 m)) => Tryd.strings_Split x ⟨#[10]⟩ m W hxz hW (by decide))
        generalize Lib.countB x ⟨#[10]⟩ = q at hps hpl C3
        generalize Lib.splitB ⟨#[10]⟩ 0 q x = ps at hps hpl C3
        rw [← hpl] at C3
        rw [hxx] at C3
        have HP := Lib.hid hps
        clear hl hne hx hlast ht hx2 hxx hxt hxz hps hpl
        have h3 : s.toList.isEmpty = false := by simpa using h2
        go_enter Tryd.func32, Tryd.ntmps32
        go_wp2_with (first | (go_at_call 57; refine (C1.out _).mono ?_; rintro e w' ⟨rfl, rfl⟩) | (go_at_call 58; refine (C2.out _).mono ?_; rintro e w' ⟨rfl, rfl⟩))
        refine (C3.out _ hm2).mono ?_
        rintro e w' ⟨rfl, rfl⟩
        go_wp2
        go_ret2
        exact ⟨_, ps, by rw [HR.out]; rfl, by rw [HR.out]; exact HP.out, SRead.of_alloc _ ps 9 ps.length, (Below.refl _ _).alloc (Nat.le_refl _) _⟩
    · have HR := Lib.hid (show linesR (L s) = (6, []) by unfold linesR; rw [if_neg (by omega), if_neg hne, if_pos hlast])
      rw [decide_eq_false hlast] at hx
      have C1 := Lib.hid (fun W => Tryd.strings_HasSuffix s ⟨#[10]⟩ W hm)
      have hx2 : Lib.hasSuffix s.data.toList ((⟨#[10]⟩ : ByteArray).data.toList) = false := hx
      rw [hx2] at C1
      clear hl hz hne hx hlast hx2
      have h3 : s.toList.isEmpty = false := by simpa using h2
      go_enter Tryd.func32, Tryd.ntmps32
      go_wp2_with (first | (go_at_call 57; refine (C1.out _).mono ?_; rintro e w' ⟨rfl, rfl⟩))
      go_ret2
      exact sends_none rfl HR.out (Below.refl _ _)
theorem info9 : (Tryd.prog.info? 9).map (fun i => (i.zero, i.size, i.bytes)) = some (some (.string ByteArray.empty), 1, 16) := by kernel_rfl
/-- What the reference has collected: the lines that ended; the one begun. -/
def Coll (s : ByteArray) (f k : Nat) (ps : List ByteArray) : Prop := f ≤ k ∧ lns [] (L s) = ps.map L ++ lns (((L s).take k).drop f) ((L s).drop k)
theorem coll_start (s : ByteArray) : Coll s 0 0 [] := ⟨Nat.le_refl _, by simp⟩
theorem drop_at (s : ByteArray) (k : Nat) (h : k < s.size) : (L s).drop k = s[k] :: (L s).drop (k + 1) := by
  rw [List.drop_eq_getElem_cons (by rw [L_length]; exact h), L_get s k h]
theorem coll_no {s : ByteArray} {f k : Nat} {ps : List ByteArray} (h : Coll s f k ps) (hk : k < s.size) (hc : ¬ s[k] = 10) : Coll s f (k + 1) ps := by
  refine ⟨by have := h.1; omega, ?_⟩
  rw [h.2, drop_at s k hk, lns, if_neg hc, take_snoc s k hk, List.drop_append_of_le_length]
  have := h.1
  simp only [List.length_take, L_length]
  omega
theorem coll_yes {s : ByteArray} {f k : Nat} {ps : List ByteArray} (h : Coll s f k ps) (hk : k < s.size) (hc : s[k] = 10) : Coll s (k + 1) (k + 1) (ps ++ [s.extract f k]) := by
  refine ⟨Nat.le_refl _, ?_⟩
  have he : ((L s).take (k + 1)).drop (k + 1) = [] := List.drop_eq_nil_of_le (by rw [List.length_take]; omega)
  rw [h.2, drop_at s k hk, lns, if_pos hc, he, List.map_append, List.append_assoc]
  congr 1
  simp only [List.map_cons, List.map_nil, List.cons_append, List.nil_append]
  congr 1
  rw [L_extract, List.drop_take]
theorem coll_end {s : ByteArray} {f k : Nat} {ps : List ByteArray} (h : Coll s f k ps) (hk : s.size ≤ k) : ps.map L = lns [] (L s) := by
  have e : (L s).drop k = [] := List.drop_eq_nil_of_le (by rw [L_length]; exact hk)
  rw [h.2, e]
  simp [lns]
theorem coll_le {s : ByteArray} {f k : Nat} {ps : List ByteArray} (h : Coll s f k ps) : ps.length ≤ s.size := by
  have h1 := congrArg List.length h.2
  rw [lns_count, List.length_append, List.length_map] at h1
  have h2 := List.count_le_length (a := (10 : UInt8)) (l := L s)
  rw [L_length] at h2
  omega
theorem row_shape {W : World} {base : Nat} {t : TypeId} {v : Value} {k : Nat} {xs : List Value} (h : W.ownsRow base t 1 v k xs) : ∃ a c, v = .slice a k c := by
  rcases h.2 with ⟨rfl, h0⟩ | ⟨g, cap, cur, rfl, _⟩
  · exact ⟨_, _, by rw [h0]⟩
  · exact ⟨_, _, rfl⟩
theorem rlines_says (s : ByteArray) (h1 : ¬ 1048576 < s.size) (hlast : s.size = 0 ∨ (L s).getLast? = some 10) : linesR (L s) = if 5000 < (lns [] (L s)).length then (3, []) else (0, lns [] (L s)) := by
  have hl := L_length s
  unfold linesR
  rw [if_neg (by omega), lns_count]
  by_cases h0 : L s = []
  · rw [if_pos h0, h0]; rfl
  · rw [if_neg h0, if_neg]
    rcases hlast with h | h
    · exact absurd (List.length_eq_zero_iff.1 (by omega)) h0
    · simpa using h
theorem eq10 {c : UInt8} : ((c.toNat : Int) = 10) ↔ c = 10 := by
  constructor
  · intro h
    exact UInt8.toNat_inj.1 (by have : (10 : UInt8).toNat = 10 := rfl; omega)
  · rintro rfl; rfl
set_option maxRecDepth 100000 in
set_option maxHeartbeats 3200000 in
theorem rlines_run (s : ByteArray) (w : World) (h1 : ¬ 1048576 < s.size) (h0 : 0 < s.size) (hg : (s[s.size - 1].toNat : Int) = 10) : Calls Tryd.prog 33 #[.string s] w (SEnds s w) := by
  obtain ⟨i0, hi, hz0, hz1, hz2⟩ := info_parts info9
  have HR := Lib.hid (rlines_says s h1 (.inr (by rw [last_at h0]; exact congrArg some (eq10.1 hg))))
  go_enter Tryd.func33, Tryd.ntmps33
  go_wp2
  go_loopw [4, 5, 6] (fun v from_ i wr => ∃ (k f : Nat) (ps : List ByteArray), k ≤ s.size ∧ f ≤ k ∧ i = .int .i64 k ∧ from_ = .int .i64 f ∧ ps.length ≤ s.size ∧ RowKit.Hid (Coll s f k ps) ∧ wr.ownsRow w.heap.size 9 1 v ps.length (ps.map Value.string) ∧ Below w.heap.size w wr) (fun _ _ i _ => s.size - (intOf i).toNat)
  case atStart => exact ⟨0, 0, [], Nat.zero_le _, Nat.le_refl _, rfl, rfl, Nat.zero_le _, Lib.hid (coll_start s), World.ownsRow_nil _ _ _ _, Below.refl _ _⟩
  case round =>
    obtain ⟨k, f, ps, hk, hf, rfl, rfl, hp, hcol, hown, hB⟩ := hrel
    have hBs := hB.size
    by_cases hlt : k < s.size
    · by_cases hc : s[k] = 10
      · have hc2 : (s[k].toNat : Int) = 10 := eq10.2 hc
        have HC := Lib.hid (coll_yes hcol.out hlt hc)
        have hp2 := coll_le HC.out
        simp only [List.length_append, List.length_cons, List.length_nil] at hp2
        clear hc
        go_wp2_with (at_builtin; refine wpList_append_lies _ rfl _ _ 46 rfl w.heap.size 9 i0 _ 1 16 Tryd.underlying46 hi hz0 hz1 hz2 rfl (by omega) _ ps.length (ps.map Value.string) rfl (hown.alloc _) ⟨wr.heap.size, 0, none⟩ 1 1 [.string (s.extract f k)] rfl rfl (World.news_of_block (cs := #[.string (s.extract f k)]) (t := 9) (fr := (0, 0)) (heap_alloc_new wr _)) (by simp [Value.oneCell']) (by omega) (by unfold maxLen; omega) (by omega) (by simp; omega) (wr.heap.size + 1) (by simp) ?_; intro gg cap w1 hown1 hgrow hat hlt1)
        have hB3 := (hB.alloc hBs (.cells #[.string (s.extract f k)] 9)).grown hgrow (by simp; omega) (fun j e => row_ge hown e)
        go_roundw
        case rel => exact ⟨k + 1, k + 1, ps ++ [s.extract f k], by omega, Nat.le_refl _, by go_num, by go_num, by simp; omega, HC, by simpa using hown1, hB3⟩
        case measure => simp [intOf]; omega
      · have hc2 : ¬ (s[k].toNat : Int) = 10 := fun e => hc (eq10.1 e)
        have HC := Lib.hid (coll_no hcol.out hlt hc)
        clear hc
        go_wp2
        go_roundw
        case rel => exact ⟨k + 1, f, ps, by omega, by omega, by go_num, rfl, hp, HC, hown, hB⟩
        case measure => simp [intOf]; omega
    · have HE := Lib.hid (coll_end hcol.out (by omega))
      have hread := SRead.of_row hown
      obtain ⟨a, c, rfl⟩ := row_shape hown
      by_cases h5 : 5000 < ps.length
      · have HR2 := Lib.hid (show linesR (L s) = (3, []) by rw [HR.out, ← HE.out, List.length_map, if_pos h5])
        go_wp2
        go_ret2
        exact sends_none rfl HR2.out hB
      · have HR2 := Lib.hid (show linesR (L s) = (0, lns [] (L s)) by rw [HR.out, ← HE.out, List.length_map, if_neg h5])
        go_wp2
        go_ret2
        exact ⟨_, ps, by rw [HR2.out]; rfl, by rw [HR2.out]; exact HE.out, hread, hB⟩
set_option maxRecDepth 100000 in
set_option maxHeartbeats 1600000 in
theorem rlines_empty (s : ByteArray) (w : World) (h0 : s.size = 0) : Calls Tryd.prog 33 #[.string s] w (SEnds s w) := by
  have HR := Lib.hid (show linesR (L s) = (0, []) by
    have hl := L_length s
    unfold linesR
    rw [if_neg (by omega), if_pos (by rw [← List.length_eq_zero_iff]; omega)])
  have hs0 : (s.size : Int) = 0 := by omega
  go_enter Tryd.func33, Tryd.ntmps33
  go_wp2
  go_loopw [4, 6] (fun v i wr => v = .slice none 0 0 ∧ i = .int .i64 0 ∧ wr = w) (fun _ _ _ => 0)
  case atStart => exact ⟨rfl, rfl, rfl⟩
  case round =>
    obtain ⟨rfl, rfl, rfl⟩ := hrel
    go_wp2
    go_ret2
    exact sends_none rfl HR.out (Below.refl _ _)
set_option maxHeartbeats 1600000 in
theorem rlines_any (s : ByteArray) (w : World) (hs : s.size ≤ 1048676) : Calls Tryd.prog 33 #[.string s] w (SEnds s w) := by
  have hl := L_length s
  by_cases h1 : 1048576 < s.size
  · have HR := Lib.hid (show linesR (L s) = (3, []) by unfold linesR; rw [if_pos (by omega)])
    clear hl
    go_enter Tryd.func33, Tryd.ntmps33
    go_wp2
    go_ret2
    exact sends_none rfl HR.out (Below.refl _ _)
  by_cases h0 : s.size = 0
  · exact rlines_empty s w h0
  by_cases hg : (s[s.size - 1].toNat : Int) = 10
  · exact rlines_run s w h1 (by omega) hg
  · have HR := Lib.hid (show linesR (L s) = (6, []) by
      unfold linesR
      rw [if_neg (by omega), if_neg (by rw [← List.length_eq_zero_iff]; omega), if_pos]
      rw [last_at (by omega)]
      intro e
      exact hg (eq10.2 (Option.some.inj e)))
    have h02 : 0 < s.size := by omega
    have hg2 : ((s[s.size - 1].toNat : Int) != 10) = true := by rw [bne_iff_ne]; exact hg
    go_enter Tryd.func33, Tryd.ntmps33
    go_wp2
    go_ret2
    exact sends_none rfl HR.out (Below.refl _ _)
end Go.Proofs.YtoclgcneclbfiaaDoor
