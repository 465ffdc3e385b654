/-
  CONTRACTS: the reference's in, rows, Check. CONTRACTS: the reference's Weak. CONTRACTS: SameInts, Same, far.
-/
import Derived.Test.YtppccacfdpkkgaaGreatDoorK4
import Derived.Deep.QuietTactic
import Derived.BigQuiet
import Derived.Test.YtppccacfdpkkgaaGreatDoorK7
namespace Go.Proofs.YtppccacfdpkkgaaGreatDoor
open Go.RowKit
theorem not_mem_next {l : List Int} {n : Int} {k : Nat} (hk : k < l.length) (h : n ∉ l.take k) (he : l[k] ≠ n) : n ∉ l.take (k + 1) := by
  rw [List.take_succ_eq_append_getElem hk, List.mem_append, List.mem_singleton]
  rintro (h' | h')
  · exact h h'
  · exact he h'.symm
set_option maxHeartbeats 1000000 in
theorem in_any (l : List Int) (n : Int) (v : Value) (w : World) (hl : l.length ≤ 1000000) (hv : ARd w v 1 (l.map iC)) (b : Bool) (hb : decide (n ∈ l) = b) :
    Calls Tryz.prog 86 #[v, .int .i64 n] w fun e w' => e = .returned (.bool b) ∧ w = w' := by
  obtain ⟨a, c, ev⟩ := hv.intForm
  subst ev
  have HV := Lib.hid hv
  have HB := Lib.hid hb
  clear hv hb
  go_enter Tryz.func86, Tryz.ntmps86
  go_wp2
  go_loop [5] (fun x => ∃ k : Nat, k ≤ l.length ∧ x = .int .i64 k ∧ RowKit.Hid (n ∉ l.take k)) (fun x => l.length - (intOf x).toNat)
  case atStart => exact ⟨0, Nat.zero_le _, rfl, Lib.hid (by simp)⟩
  obtain ⟨k, hk, rfl, hN⟩ := hrel
  by_cases hlt : k < l.length
  · obtain ⟨lb, lo, lc, el, hlb, hcl⟩ := HV.out.intAt k hlt
    cases el
    have hk2 : (k : Int) < (l.length : Int) := by omega
    by_cases hx : l[k] = n
    · have HE : RowKit.Hid (b = true) := Lib.hid (by rw [← HB.out, decide_eq_true_iff, ← hx]; exact List.getElem_mem hlt)
      have hx2 : (l[k] == n) = true := by rw [beq_iff_eq]; exact hx
      clear hx
      go_wp2
      go_ret
      exact ⟨by rw [HE.out]; rfl, rfl⟩
    · have HN := Lib.hid (not_mem_next hlt hN.out hx)
      have hx2 : (l[k] == n) = false := by rw [beq_eq_false_iff_ne]; exact hx
      clear hx
      go_wp2
      go_round
      case rel => exact ⟨k + 1, by omega, by go_num, HN⟩
      case measure => simp [intOf]; omega
  · have hk2 : ¬ ((k : Int) < (l.length : Int)) := by omega
    have HE : RowKit.Hid (b = false) := Lib.hid (by rw [← HB.out, decide_eq_false_iff_not]; have := hN.out; rwa [List.take_of_length_le (by omega)] at this)
    go_wp2
    go_ret
    exact ⟨by rw [HE.out]; rfl, rfl⟩
structure RrInv (R : Ro) (g : Bool) (v : Value) (w wr : World) (i k : Nat) : Prop where
  x : Blk wr w.heap.size 36 #[.int .i64 R.tracks, v]
  err : ∀ j (hj : j < R.rows.length), j < i → rowErr R.tracks g R.rows[j] = 0
  errk : ∀ (hr : i < R.rows.length), firstErr (numErr R.tracks R.rows[i]) k = 0
  b : Below w.heap.size w wr
theorem RrInv.bad {R : Ro} {g : Bool} {v : Value} {w wr : World} {i k : Nat} (h : RrInv R g v w wr i k) (ht : ¬ (R.tracks < 2 ∨ R.tracks > 128)) (hl : R.rows.length ≤ 20000) (hi : i < R.rows.length) {l : List Int} (hll : R.rows[i] = l) (hk : k < l.length) {e : Int} (he : numErr R.tracks l k = e) (h0 : e ≠ 0) : rollErr R g = e := by
  subst hll
  exact rollErr_row ht hl hi h.err (rowErr_num (h.errk hi) hk he h0) h0
theorem RrInv.step {R : Ro} {g : Bool} {v : Value} {w wr : World} {i k : Nat} (h : RrInv R g v w wr i k) (hi : i < R.rows.length) {l : List Int} (hll : R.rows[i] = l) (he : numErr R.tracks l k = 0) (n : Nat) : RrInv R g v w (wr.drewN n) i (k + 1) := by
  subst hll
  exact ⟨h.x.drewN n, h.err, fun hr => by rw [firstErr_next (h.errk hr)]; exact he, below_drewN h.b n⟩
theorem RrInv.next {R : Ro} {g : Bool} {v : Value} {w wr : World} {i k : Nat} (h : RrInv R g v w wr i k) (hi : i < R.rows.length) (he : rowErr R.tracks g R.rows[i] = 0) : RrInv R g v w wr (i + 1) 0 :=
  ⟨h.x, fun j hj hlt => by
    by_cases e : j = i
    · subst e; exact he
    · exact h.err j hj (by omega), fun _ => rfl, h.b⟩
theorem RrInv.fullErr {R : Ro} {g : Bool} {v : Value} {w wr : World} {i k : Nat} (h : RrInv R g v w wr i k) (hi : i < R.rows.length) (hk : k = R.rows[i].length) : firstErr (numErr R.tracks R.rows[i]) R.rows[i].length = 0 := by
  have := h.errk hi
  rwa [hk] at this
theorem rr_two {R : Ro} {g : Bool} {v : Value} {w wr : World} {i k : Nat} (h : RrInv R g v w wr i k) (n : Nat) : RrInv R g v w (wr.drewN n) i k := ⟨h.x.drewN n, h.err, h.errk, below_drewN h.b n⟩
/-- How rows ends. -/
def RrEnds (R : Ro) (g : Bool) (w : World) (e : Ending) (w' : World) : Prop := e = .returned (.int .i64 (rollErr R g)) ∧ Below w.heap.size w w'
theorem rrEnds {R : Ro} {g : Bool} {w w' : World} {n : Int} (hb : Below w.heap.size w w') (he : rollErr R g = n) : RrEnds R g w (.returned (.int .i64 n)) w' := ⟨by rw [he], hb⟩
set_option maxRecDepth 100000 in
set_option maxHeartbeats 6400000 in
theorem rrows_any (R : Ro) (g : Bool) (hok : RoOk R) (v : Value) (f : Nat → Value) (w : World) (hr : RoRd w v f R) :
    Calls Tryz.prog 85 #[.agg #[.int .i64 R.tracks, v], .bool g] w (RrEnds R g w) := by
  obtain ⟨av, cv, rfl⟩ := hr.form
  have HR := Lib.hid hr
  have HO := Lib.hid hok
  clear hr hok
  have hbx : Below w.heap.size w (w.alloc (.cells #[.int .i64 R.tracks, .slice av R.rows.length cv] 36)) := (Below.refl _ _).alloc (Nat.le_refl _) _
  by_cases h1 : R.tracks < 2
  · have HE := Lib.hid (rrEnds (g := g) hbx (rollErr_tr (.inl h1)))
    clear hbx
    go_enter Tryz.func85, Tryz.ntmps85
    go_wp2
    go_ret
    exact HE.out
  · by_cases h2 : 128 < R.tracks
    · have HE := Lib.hid (rrEnds (g := g) hbx (rollErr_tr (.inr h2)))
      have h1' : 2 ≤ R.tracks := by omega
      clear hbx h1
      go_enter Tryz.func85, Tryz.ntmps85
      go_wp2
      go_ret
      exact HE.out
    · have h1' : 2 ≤ R.tracks := by omega
      have h2' : R.tracks ≤ 128 := by omega
      have HT : RowKit.Hid (¬ (R.tracks < 2 ∨ R.tracks > 128)) := Lib.hid (by omega)
      clear h1 h2
      by_cases h3 : 20000 < R.rows.length
      · have HE := Lib.hid (rrEnds (g := g) hbx (rollErr_long HT.out h3))
        have h3' : decide ((20000 : Int) < (R.rows.length : Int)) = true := by rw [decide_eq_true_iff]; omega
        clear hbx h3
        go_enter Tryz.func85, Tryz.ntmps85
        go_wp2
        go_ret
        exact HE.out
      · have h3' : decide ((20000 : Int) < (R.rows.length : Int)) = false := by rw [decide_eq_false_iff_not]; omega
        have hlen : R.rows.length ≤ 20000 := by omega
        have HL := Lib.hid hlen
        have HX := Lib.hid (Blk.new w 36 #[.int .i64 R.tracks, .slice av R.rows.length cv])
        have HBX := Lib.hid hbx
        clear hbx h3
        go_enter Tryz.func85, Tryz.ntmps85
        go_wp2
        go_loopw [5] (fun x wr => ∃ i : Nat, i ≤ R.rows.length ∧ x = .int .i64 i ∧ RowKit.Hid (RrInv R g (.slice av R.rows.length cv) w wr i 0)) (fun x _ => R.rows.length - (intOf x).toNat)
        case atStart => exact ⟨0, by omega, rfl, Lib.hid ⟨HX.out, fun j _ h => absurd h (Nat.not_lt_zero j), fun _ => rfl, HBX.out⟩⟩
        obtain ⟨i, hi, rfl, hI⟩ := hrel
        have x0 := hI.out.x.cell 0
        have x1 := hI.out.x.cell 1
        by_cases hlt : i < R.rows.length
        · obtain ⟨b, o, c, a2, c2, ev, hbl, hc0, hrow⟩ := HR.out.at i hlt
          have hc := (hI.out.b.cell (p := ⟨b, o + i, none⟩) hbl).trans hc0
          clear hc0
          cases ev
          obtain ⟨l, hl⟩ : ∃ l, R.rows[i] = l := ⟨_, rfl⟩
          rw [hl] at hc hrow
          have HLL := Lib.hid hl
          have HROW := Lib.hid hrow
          have hll : l.length ≤ 1000 := HO.out.row HL.out l (by rw [← hl]; exact List.getElem_mem hlt)
          have hi2 : (i : Int) < (R.rows.length : Int) := by omega
          clear hl hrow
          go_wp2
          clear x0 x1 hc
          go_loopw [7] (fun x wi => ∃ k : Nat, k ≤ l.length ∧ x = .int .i64 k ∧ RowKit.Hid (RrInv R g (.slice (some ⟨b, o, none⟩) R.rows.length cv) w wi i k)) (fun x _ => l.length - (intOf x).toNat)
          case atStart => exact ⟨0, by omega, rfl, hI⟩
          clear hI
          obtain ⟨k, hk, rfl, hI⟩ := hrel
          have x0 := hI.out.x.cell 0
          have hB := hI.out.b
          have HB := Lib.hid hB
          by_cases hlk : k < l.length
          · have hk2 : (k : Int) < (l.length : Int) := by omega
            obtain ⟨lb, lo, lc, el, hlb, hcl0⟩ := HROW.out.intAt k hlk
            have hcl := (hB.cell (p := ⟨lb, lo + k, none⟩) hlb).trans hcl0
            cases el
            obtain ⟨x, hx⟩ : ∃ x, l[k] = x := ⟨_, rfl⟩
            rw [hx] at hcl
            have HX2 := Lib.hid hx
            have HLK := Lib.hid hlk
            clear hcl0 hx hB
            by_cases hx0 : x < 0
            · have HE := Lib.hid (hI.out.bad HT.out HL.out hlt HLL.out HLK.out (numErr_lo HLK.out (by rw [HX2.out]; exact .inl hx0)) (by decide))
              clear hI
              go_wp2_with fail
              go_quiet (fail)
              go_wp2
              go_ret
              exact rrEnds (below_drewN HB.out _) HE.out
            · have hx1 : 0 ≤ x := by omega
              have hx0' : decide (x < 0) = false := by rw [decide_eq_false_iff_not]; exact hx0
              clear hx0
              by_cases hxt : R.tracks ≤ x
              · have HE := Lib.hid (hI.out.bad HT.out HL.out hlt HLL.out HLK.out (numErr_lo HLK.out (by rw [HX2.out]; exact .inr hxt)) (by decide))
                clear hI
                go_wp2_with fail
                go_quiet (fail)
                go_wp2
                go_ret
                exact rrEnds (below_drewN HB.out _) HE.out
              · have hx2 : x < R.tracks := by omega
                have hx3 : decide (R.tracks ≤ x) = false := by rw [decide_eq_false_iff_not]; exact hxt
                have HXT : RowKit.Hid (¬ (l[k]'(HLK.out) < 0 ∨ l[k]'(HLK.out) ≥ R.tracks)) := by rw [HX2.out]; exact Lib.hid (by omega)
                clear hxt
                by_cases hk0 : 0 < k
                · obtain ⟨lb', lo', lc', el', hlb', hcl0⟩ := HROW.out.intAt (k - 1) (by omega)
                  have hcl1 := (HB.out.cell (p := ⟨lb', lo' + (k - 1), none⟩) hlb').trans hcl0
                  cases el'
                  have hk1 : (1 : Int) ≤ (k : Int) := by omega
                  have ek : ((k : Int) - 1).toNat = k - 1 := by omega
                  have hk3 : k - 1 < l.length := by omega
                  have hk4 : (k : Int) - 1 < (l.length : Int) := by omega
                  obtain ⟨y, hy⟩ : ∃ y, l[k - 1] = y := ⟨_, rfl⟩
                  rw [hy] at hcl1
                  have HY := Lib.hid hy
                  clear hcl0 hy
                  have hk5 : decide (0 < k) = true := by simpa using hk0
                  by_cases hxy : x ≤ y
                  · have HE := Lib.hid (hI.out.bad HT.out HL.out hlt HLL.out HLK.out (numErr_twice HLK.out HXT.out hk0 hk3 (by rw [HX2.out, HY.out]; exact hxy)) (by decide))
                    clear hI
                    go_wp2_with fail
                    go_quiet (fail)
                    go_wp2_with fail
                    go_quiet (fail)
                    go_wp2
                    go_ret
                    exact rrEnds (below_drewN (below_drewN HB.out _) _) HE.out
                  · have hxy' : decide (x ≤ y) = false := by rw [decide_eq_false_iff_not]; exact hxy
                    have HN := Lib.hid (numErr_good HLK.out HXT.out hk3 (fun _ => by rw [HX2.out, HY.out]; omega))
                    clear hxy
                    go_wp2_with fail
                    go_quiet (fail)
                    go_wp2_with fail
                    go_quiet (fail)
                    go_wp2
                    go_roundw
                    case rel => exact ⟨k + 1, by omega, by go_num, Lib.hid (hI.out.step hlt HLL.out HN.out _)⟩
                    case measure => simp [intOf]; omega
                · have HN := Lib.hid (numErr_good HLK.out HXT.out (show k - 1 < l.length by omega) (fun h => absurd h hk0))
                  have hk5 : decide (0 < k) = false := by simpa using hk0
                  go_wp2_with fail
                  go_quiet (fail)
                  go_wp2_with fail
                  go_quiet (fail)
                  go_wp2
                  go_roundw
                  case rel => exact ⟨k + 1, by omega, by go_num, Lib.hid (hI.out.step hlt HLL.out HN.out _)⟩
                  case measure => simp [intOf]; omega
          · have hke : k = l.length := by omega
            have hk2 : ¬ ((k : Int) < (l.length : Int)) := by omega
            have hke2 : R.rows[i].length = l.length := by rw [HLL.out]
            have HF := Lib.hid (hI.out.fullErr hlt (by rw [hke, hke2]))
            clear hB hke hke2 hlk
            cases g with
            | false =>
              have HI2 := Lib.hid (hI.out.next hlt (rowErr_good HF.out (fun h => by cases h)))
              go_wp2
              go_roundw
              case rel => exact ⟨i + 1, by omega, by go_num, HI2⟩
              case measure => simp [intOf]; omega
            | true =>
              obtain ⟨bb, hbb⟩ : ∃ bb, decide ((0 : Int) ∈ l) = bb := ⟨_, rfl⟩
              have hbb2 : bb = decide ((0 : Int) ∈ R.rows[i]) := by rw [HLL.out]; exact hbb.symm
              have HBB := Lib.hid hbb
              clear hbb
              cases bb with
              | false =>
                have h0 : (0 : Int) ∉ R.rows[i] := of_decide_eq_false hbb2.symm
                have HE := Lib.hid (rollErr_row HT.out HL.out hlt hI.out.err (rowErr_guide HF.out h0) (by decide))
                clear hbb2 h0 hI
                go_wp2_with (go_at_call 86; refine (in_any l 0 _ _ (by omega) (HROW.out.later HB.out) false HBB.out).mono ?_; rintro e w' ⟨rfl, rfl⟩)
                go_ret
                exact rrEnds HB.out HE.out
              | true =>
                have h0 : (0 : Int) ∈ R.rows[i] := of_decide_eq_true hbb2.symm
                have HI2 := Lib.hid (hI.out.next hlt (rowErr_good HF.out (fun _ => h0)))
                clear hbb2 h0 hI
                go_wp2_with (go_at_call 86; refine (in_any l 0 _ _ (by omega) (HROW.out.later HB.out) true HBB.out).mono ?_; rintro e w' ⟨rfl, rfl⟩)
                go_roundw
                case rel => exact ⟨i + 1, by omega, by go_num, HI2⟩
                case measure => simp [intOf]; omega
        · have hie : i = R.rows.length := by omega
          have hi2 : ¬ ((i : Int) < (R.rows.length : Int)) := by omega
          have HE := Lib.hid (rollErr_good (g := g) HT.out HL.out (fun j hj => hI.out.err j hj (by omega)))
          have HB := Lib.hid hI.out.b
          clear hie hI
          go_wp2
          go_ret
          exact rrEnds HB.out HE.out
theorem rcheck_roll (R : Ro) (hok : RoOk R) (v : Value) (f : Nat → Value) (w : World) (hr : RoRd w v f R) :
    Calls Tryz.prog 50 #[.agg #[.int .i64 R.tracks, v]] w fun e w' => e = .returned (.int .i64 (rollErr R true)) ∧ Below w.heap.size w w' := by
  have hb0 : Below w.heap.size w (w.alloc (.cells #[.int .i64 R.tracks, v] 36)) := (Below.refl _ _).alloc (Nat.le_refl _) _
  have HB0 := Lib.hid hb0
  have HR := Lib.hid hr
  have HO := Lib.hid hok
  clear hr hok hb0
  go_enter Tryz.func50, Tryz.ntmps50
  go_wp2_with fail
  refine (rrows_any R true HO.out v f _ (HR.out.later HB0.out)).mono ?_
  rintro e w1 ⟨rfl, hb1⟩
  have HB := Lib.hid (below_step HB0.out hb1)
  clear hb1
  go_wp2
  go_ret
  exact ⟨rfl, HB.out⟩
/-- Is a track's number in a row? -/
def inB (l : List Int) (t : Nat) : Bool := decide ((t : Int) ∈ l)
/-- The run of holes that ends ahead of a track. -/
def runP (f : Nat → Bool) : Nat → Nat
  | 0 => 0
  | k + 1 => runE f k
theorem runP_next (f : Nat → Bool) (k : Nat) : runP f (k + 1) = if f k then runP f k + 1 else 0 := by
  cases k with
  | zero => rfl
  | succ k => rfl
theorem worst_next (f : Nat → Bool) (k : Nat) : worst f (k + 1) = max (worst f k) (runP f (k + 1)) := rfl
theorem int_eq {a b : Int} (h : a = b) : Value.int .i64 a = .int .i64 b := by rw [h]
theorem runP_le (f : Nat → Bool) (k : Nat) : runP f k ≤ k := by
  cases k with
  | zero => exact Nat.le_refl _
  | succ k => exact runE_le f k
theorem ARd.drewN {w : World} {v : Value} {k : Nat} {rows : List (List Value)} (h : ARd w v k rows) (n : Nat) : ARd (w.drewN n) v k rows := h
theorem drew_add (w : World) (a b : Nat) : (w.drewN a).drewN b = w.drewN (a + b) := World.drewN_drewN w a b
set_option maxRecDepth 100000 in
set_option maxHeartbeats 3200000 in
theorem same_ints (l : List Int) (v u : Value) (w : World) (hv : ARd w v 1 (l.map iC)) (hu : ARd w u 1 (l.map iC)) (hl : l.length ≤ 1000000) :
    Calls Tryz.prog 32 #[v, u] w fun e w' => e = .returned (.bool true) ∧ ∃ n, w' = w.drewN n := by
  obtain ⟨a, c, ev⟩ := hv.intForm
  obtain ⟨a2, c2, eu⟩ := hu.intForm
  subst ev
  subst eu
  have HV := Lib.hid hv
  have HU := Lib.hid hu
  clear hv hu
  go_enter Tryz.func32, Tryz.ntmps32
  go_wp2
  go_loopw [5] (fun x wr => ∃ k : Nat, k ≤ l.length ∧ x = .int .i64 k ∧ RowKit.Hid (∃ n, wr = w.drewN n)) (fun x _ => l.length - (intOf x).toNat)
  case atStart => exact ⟨0, by omega, rfl, Lib.hid ⟨0, rfl⟩⟩
  obtain ⟨k, hk, rfl, hW⟩ := hrel
  by_cases hlt : k < l.length
  · obtain ⟨n, hn⟩ := hW.out
    obtain ⟨b, o, c', ev', hbl, q0⟩ := HV.out.intAt k hlt
    obtain ⟨b2, o2, c2', eu', hbl2, r0⟩ := HU.out.intAt k hlt
    replace q0 : wr.cell? ⟨b, o + k, none⟩ = some (.int .i64 l[k]) := by rw [hn]; exact q0
    replace r0 : wr.cell? ⟨b2, o2 + k, none⟩ = some (.int .i64 l[k]) := by rw [hn]; exact r0
    cases ev'
    cases eu'
    have hk2 : (k : Int) < (l.length : Int) := by omega
    have HN := Lib.hid hn
    clear hn
    go_wp2_with fail
    go_quiet (fail)
    go_wp2
    go_roundw
    case rel => exact ⟨k + 1, by omega, by go_num, Lib.hid ⟨n + nq, by rw [HN.out, drew_add]⟩⟩
    case measure => simp [intOf]; omega
  · have hk2 : ¬ ((k : Int) < (l.length : Int)) := by omega
    go_wp2
    go_ret
    exact ⟨rfl, hW.out⟩
set_option maxRecDepth 100000 in
set_option maxHeartbeats 3200000 in
theorem same_rolls (R : Ro) (hn : R.rows.length ≤ 1000000) (hl : ∀ l ∈ R.rows, l.length ≤ 1000000) (v u : Value) (f g : Nat → Value) (w : World) (hv : RoRd w v f R) (hu : RoRd w u g R) :
    Calls Tryz.prog 13 #[.agg #[.int .i64 R.tracks, v], .agg #[.int .i64 R.tracks, u]] w fun e w' => e = .returned (.bool true) ∧ Below w.heap.size w w' := by
  obtain ⟨a, c, ev⟩ := hv.form
  obtain ⟨a2, c2, eu⟩ := hu.form
  subst ev
  subst eu
  have HV := Lib.hid hv
  have HU := Lib.hid hu
  have HX := Lib.hid ((Blk.new w 36 #[.int .i64 R.tracks, .slice a R.rows.length c]).alloc (.cells #[.int .i64 R.tracks, .slice a2 R.rows.length c2] 36))
  have HY := Lib.hid (Blk.new (w.alloc (.cells #[.int .i64 R.tracks, .slice a R.rows.length c] 36)) 36 #[.int .i64 R.tracks, .slice a2 R.rows.length c2])
  have hb0 : Below w.heap.size w ((w.alloc (.cells #[.int .i64 R.tracks, .slice a R.rows.length c] 36)).alloc (.cells #[.int .i64 R.tracks, .slice a2 R.rows.length c2] 36)) := ((Below.refl _ _).alloc (Nat.le_refl _) _).alloc (by simp) _
  have HB0 := Lib.hid hb0
  clear hv hu hb0
  go_enter Tryz.func13, Tryz.ntmps13
  go_wp2
  obtain ⟨w1, hw1⟩ : ∃ w1, (w.alloc (.cells #[.int .i64 R.tracks, .slice a R.rows.length c] 36)).alloc (.cells #[.int .i64 R.tracks, .slice a2 R.rows.length c2] 36) = w1 := ⟨_, rfl⟩
  rw [hw1] at HX HY HB0 ⊢
  have HV1 := Lib.hid (HV.out.later HB0.out)
  have HU1 := Lib.hid (HU.out.later HB0.out)
  clear hw1
  go_loopw [5] (fun x wr => ∃ k : Nat, k ≤ R.rows.length ∧ x = .int .i64 k ∧ RowKit.Hid (∃ n, wr = w1.drewN n)) (fun x _ => R.rows.length - (intOf x).toNat)
  case atStart => exact ⟨0, by omega, rfl, Lib.hid ⟨0, rfl⟩⟩
  obtain ⟨k, hk, rfl, hW⟩ := hrel
  obtain ⟨n, hn⟩ := hW.out
  have x1 : wr.cell? ⟨w.heap.size, 1, none⟩ = some (.slice a R.rows.length c) := by rw [hn]; exact HX.out.cell 1
  have y1 : wr.cell? ⟨w.heap.size + 1, 1, none⟩ = some (.slice a2 R.rows.length c2) := by
    have := HY.out.cell 1
    simp only [World.size_alloc] at this
    rw [hn]; exact this
  by_cases hlt : k < R.rows.length
  · obtain ⟨b, o, c', a3, c3, ev', hbl, q0, qr⟩ := HV1.out.at k hlt
    obtain ⟨b2, o2, c2', a4, c4, eu', hbl2, r0, rr⟩ := HU1.out.at k hlt
    replace q0 : wr.cell? ⟨b, o + k, none⟩ = some (.slice a3 R.rows[k].length c3) := by rw [hn]; exact q0
    replace r0 : wr.cell? ⟨b2, o2 + k, none⟩ = some (.slice a4 R.rows[k].length c4) := by rw [hn]; exact r0
    have HS : ∀ m, Calls Tryz.prog 32 #[.slice a3 R.rows[k].length c3, .slice a4 R.rows[k].length c4] (wr.drewN m) fun e w' => e = .returned (.bool true) ∧ ∃ n, w' = (wr.drewN m).drewN n := fun m => by
      rw [hn]
      exact same_ints R.rows[k] _ _ _ (qr.drewN (n := n)) (rr.drewN (n := n)) (hl _ (List.getElem_mem hlt))
    have HSH := Lib.hid HS
    cases ev'
    cases eu'
    have hk2 : (k : Int) < (R.rows.length : Int) := by omega
    have HN := Lib.hid hn
    clear hn HS qr rr
    go_wp2_with fail
    go_quiet ((go_at_call 32; exact Calls.quiet_of (HSH.out _)))
    go_wp2
    go_roundw
    case rel => exact ⟨k + 1, by omega, by go_num, Lib.hid ⟨n + nq, by rw [HN.out, drew_add]⟩⟩
    case measure => simp [intOf]; omega
  · have hk2 : ¬ ((k : Int) < (R.rows.length : Int)) := by omega
    have HE : RowKit.Hid (Below w.heap.size w wr) := by rw [hn]; exact Lib.hid (below_drewN HB0.out n)
    clear hn
    go_wp2
    go_ret
    exact ⟨rfl, HE.out⟩
/-- How far ends. -/
def FarR (R : Ro) (w : World) (e : Ending) (w' : World) : Prop := ∃ b : Bool, e = .returned (.bool b) ∧ (b = false → RoOk R) ∧ Below w.heap.size w w'
theorem farR {R : Ro} {w w' : World} {b : Bool} (h : b = false → RoOk R) (hb : Below w.heap.size w w') : FarR R w (.returned (.bool b)) w' := ⟨b, rfl, h, hb⟩
set_option maxRecDepth 100000 in
set_option maxHeartbeats 3200000 in
theorem far_roll (R : Ro) (v : Value) (f : Nat → Value) (hn : R.rows.length ≤ maxLen) (hll : ∀ l ∈ R.rows, l.length ≤ maxLen) (w : World) (hr : RoRd w v f R) :
    Calls Tryz.prog 14 #[.agg #[.int .i64 R.tracks, v]] w (FarR R w) := by
  unfold maxLen at hn hll
  obtain ⟨av, cv, rfl⟩ := hr.form
  have HR := Lib.hid hr
  have hb0 : Below w.heap.size w (w.alloc (.cells #[.int .i64 R.tracks, .slice av R.rows.length cv] 36)) := (Below.refl _ _).alloc (Nat.le_refl _) _
  have HB0 := Lib.hid hb0
  have HX := Lib.hid (Blk.new w 36 #[.int .i64 R.tracks, .slice av R.rows.length cv])
  have HLL := Lib.hid hll
  clear hr hb0 hll
  by_cases h1 : 20000 < R.rows.length
  · have h1' : decide ((20000 : Int) < (R.rows.length : Int)) = true := by rw [decide_eq_true_iff]; omega
    obtain ⟨b, hb⟩ := any_eq (decide ((20100 : Int) < (R.rows.length : Int)))
    have HE : RowKit.Hid (b = false → RoOk R) := Lib.hid (fun e => by
      rw [e] at hb
      have := of_decide_eq_false hb
      exact ⟨by omega, fun h => by omega⟩)
    clear h1
    go_enter Tryz.func14, Tryz.ntmps14
    go_wp2
    go_ret
    exact farR HE.out HB0.out
  · have h1' : decide ((20000 : Int) < (R.rows.length : Int)) = false := by rw [decide_eq_false_iff_not]; omega
    clear h1
    by_cases h2 : 300 < R.rows.length
    · have h2' : decide ((300 : Int) < (R.rows.length : Int)) = true := by rw [decide_eq_true_iff]; omega
      clear h2
      go_enter Tryz.func14, Tryz.ntmps14
      go_wp2
      go_ret
      exact farR (fun e => by cases e) HB0.out
    · have h2' : decide ((300 : Int) < (R.rows.length : Int)) = false := by rw [decide_eq_false_iff_not]; omega
      have h300 : R.rows.length ≤ 300 := by omega
      clear h2
      go_enter Tryz.func14, Tryz.ntmps14
      go_wp2
      obtain ⟨w1, hw1⟩ : ∃ w1, w.alloc (.cells #[.int .i64 R.tracks, .slice av R.rows.length cv] 36) = w1 := ⟨_, rfl⟩
      rw [hw1] at HX HB0 ⊢
      have HR1 := Lib.hid (HR.out.later HB0.out)
      have x0 : w1.cell? ⟨w.heap.size, 0, none⟩ = some (.int .i64 R.tracks) := HX.out.cell 0
      have x1 : w1.cell? ⟨w.heap.size, 1, none⟩ = some (.slice av R.rows.length cv) := HX.out.cell 1
      clear hw1
      go_loop [3] (fun x => ∃ k : Nat, k ≤ R.rows.length ∧ x = .int .i64 k ∧ RowKit.Hid (∀ j (hj : j < R.rows.length), j < k → R.rows[j].length ≤ 200)) (fun x => R.rows.length - (intOf x).toNat)
      case atStart => exact ⟨0, by omega, rfl, Lib.hid (fun j _ h => absurd h (Nat.not_lt_zero j))⟩
      obtain ⟨k, hk, rfl, hI⟩ := hrel
      by_cases hlt : k < R.rows.length
      · obtain ⟨b, o, c', a3, c3, ev', hbl, q0, qr⟩ := HR1.out.at k hlt
        cases ev'
        have hk2 : (k : Int) < (R.rows.length : Int) := by omega
        have hm := HLL.out _ (List.getElem_mem hlt)
        clear qr
        by_cases hl : 200 < R.rows[k].length
        · have hl' : decide ((200 : Int) < (R.rows[k].length : Int)) = true := by rw [decide_eq_true_iff]; omega
          clear hl
          go_wp2
          go_ret
          exact farR (fun e => by cases e) HB0.out
        · have hl' : decide ((200 : Int) < (R.rows[k].length : Int)) = false := by rw [decide_eq_false_iff_not]; omega
          have HI2 : RowKit.Hid (∀ j (hj : j < R.rows.length), j < k + 1 → R.rows[j].length ≤ 200) := Lib.hid (fun j hj hjk => by
            by_cases e : j = k
            · subst e; omega
            · exact hI.out j hj (by omega))
          clear hl
          go_wp2
          go_round
          case rel => exact ⟨k + 1, by omega, by go_num, HI2⟩
          case measure => simp [intOf]; omega
      · have hk2 : ¬ ((k : Int) < (R.rows.length : Int)) := by omega
        have HOK : RowKit.Hid (RoOk R) := Lib.hid ⟨by omega, fun _ l hl => by
          obtain ⟨j, hj, rfl⟩ := List.getElem_of_mem hl
          have := hI.out j hj (by omega)
          omega⟩
        by_cases h3 : 0 < R.tracks
        · by_cases h4 : R.tracks ≤ 128
          · go_wp2
            all_goals (go_ret; exact farR (fun _ => HOK.out) HB0.out)
          · have h4' : decide (R.tracks ≤ 128) = false := by rw [decide_eq_false_iff_not]; exact h4
            have h4'' : 128 < R.tracks := by omega
            clear h4
            go_wp2
            go_ret
            exact farR (fun _ => HOK.out) HB0.out
        · have h3' : decide (0 < R.tracks) = false := by rw [decide_eq_false_iff_not]; exact h3
          have h3'' : R.tracks ≤ 0 := by omega
          clear h3
          go_wp2
          go_ret
          exact farR (fun _ => HOK.out) HB0.out
end Go.Proofs.YtppccacfdpkkgaaGreatDoor
