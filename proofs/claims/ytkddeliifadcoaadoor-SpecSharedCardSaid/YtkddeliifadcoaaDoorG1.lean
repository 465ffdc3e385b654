/-
  PLAIN: which stops use a pipe; the pipes that are shared. No program in sight. LISTS OF SHARES IN MEMORY. CONTRACTS: the reference's uses.
-/
import Derived.Test.YtkddeliifadcoaaDoorE5
import Derived.Test.YtkddeliifadcoaaDoorRow
import Derived.Test.YtkddeliifadcoaaDoorHeld
namespace Go.Proofs.YtkddeliifadcoaaDoor
open Go.RowKit
def holdsB (y : Pt) (p : Pp) : Bool := decide (y.rank = p.1 ∧ y.lo ≤ p.2 - y.shift ∧ p.2 - y.shift ≤ y.hi)
def usesB (x : St) (p : Pp) : Bool := x.parts.any fun y => holdsB y p
def usesAt (ss : List St) (k : Nat) (p : Pp) : Bool := match ss[k]? with | none => false | some x => usesB x p
theorem usesAt_is {ss : List St} {k : Nat} (h : k < ss.length) (p : Pp) : usesAt ss k p = usesB ss[k] p := by unfold usesAt; rw [List.getElem?_eq_getElem h]
/-- The stops below k that use a pipe. -/
def ub (ss : List St) (p : Pp) : Nat → List Int
  | 0 => []
  | k + 1 => ub ss p k ++ if usesAt ss k p then [(k : Int)] else []
theorem ub_lt {ss : List St} {p : Pp} : ∀ {k : Nat}, ∀ n ∈ ub ss p k, 0 ≤ n ∧ n < k
  | 0, n, h => by cases h
  | k + 1, n, h => by
    rw [ub, List.mem_append] at h
    rcases h with h | h
    · have := ub_lt n h; omega
    · split at h
      · rw [List.mem_singleton] at h; omega
      · cases h
theorem ub_len {ss : List St} {p : Pp} : ∀ {k : Nat}, (ub ss p k).length ≤ k
  | 0 => Nat.le_refl _
  | k + 1 => by
    rw [ub, List.length_append]
    have := ub_len (ss := ss) (p := p) (k := k)
    split <;> simp <;> omega
theorem mem_ub {ss : List St} {p : Pp} : ∀ {k : Nat} {n : Int}, n ∈ ub ss p k ↔ ∃ j : Nat, j < k ∧ n = j ∧ usesAt ss j p = true
  | 0, n => by simp [ub]
  | k + 1, n => by
    rw [ub, List.mem_append, mem_ub]
    constructor
    · rintro (⟨j, h1, h2, h3⟩ | h)
      · exact ⟨j, by omega, h2, h3⟩
      · split at h
        · next hk => exact ⟨k, by omega, List.mem_singleton.1 h, hk⟩
        · cases h
    · rintro ⟨j, h1, h2, h3⟩
      by_cases e : j = k
      · subst e
        right
        rw [if_pos h3]
        simp [h2]
      · exact .inl ⟨j, by omega, h2, h3⟩
def shareL (S : Sp) : List Pp := (allFrom 0 S.rs).filter fun p => decide (1 < (ub S.ss p S.ss.length).length)
def shareP (S : Sp) : List (Pp × List Int) := (shareL S).map fun p => (p, ub S.ss p S.ss.length)
def sharedP (S : Sp) : List (Pp × List Int) × Int := if (checkP S).2 = 0 then (shareP S, 0) else ([], (checkP S).2)
theorem uses_in {S : Sp} (g : SpGood S) {x : St} (hx : x ∈ S.ss) {p : Pp} (h : usesB x p = true) : p ∈ allFrom 0 S.rs := by
  unfold usesB at h
  rw [List.any_eq_true] at h
  obtain ⟨y, hy, h⟩ := h
  unfold holdsB at h
  simp only [decide_eq_true_eq] at h
  obtain ⟨k, hk', h1, h2⟩ := g.part hx hy
  rw [mem_allFrom]
  exact ⟨k, hk', by omega, by omega, by omega⟩
theorem ub_in {S : Sp} (g : SpGood S) {p : Pp} {k : Nat} (h : ub S.ss p k ≠ []) : p ∈ allFrom 0 S.rs := by
  obtain ⟨n, hn⟩ := List.exists_mem_of_ne_nil _ h
  obtain ⟨j, _, _, hj⟩ := mem_ub.1 hn
  unfold usesAt at hj
  cases hs : S.ss[j]? with
  | none => rw [hs] at hj; cases hj
  | some x =>
    rw [hs] at hj
    exact uses_in g (List.mem_iff_getElem?.2 ⟨j, hs⟩) hj
theorem asc_shareL (S : Sp) : (shareL S).Pairwise ppLt := (asc_allFrom _ _).filter _
theorem mem_shareL {S : Sp} (g : SpGood S) {p : Pp} : p ∈ shareL S ↔ 1 < (ub S.ss p S.ss.length).length := by
  unfold shareL
  rw [List.mem_filter, decide_eq_true_iff]
  constructor
  · exact fun h => h.2
  · intro h
    exact ⟨ub_in g (k := S.ss.length) (by intro e; rw [e] at h; simp at h), h⟩
/-- Sorted and without repetition: strictly ascending. -/
theorem asc_of_sorted {l : List Pp} (hs : l.Pairwise ppLe) (hn : l.Nodup) : l.Pairwise ppLt := by
  have := hs.and hn
  refine this.imp ?_
  rintro a b ⟨h1, h2⟩
  rcases ppLt_total a b with k | k | k
  · exact k
  · exact absurd k h2
  · exact absurd k h1
/-! What has been seen of the stop in hand. -/
def upTo (y : Pt) (key : Int) (p : Pp) : Bool := decide (y.rank = p.1 ∧ y.lo ≤ p.2 - y.shift ∧ p.2 - y.shift < key)
def seenB (x : St) (j : Nat) (p : Pp) : Bool := (x.parts.take j).any fun y => holdsB y p
theorem upTo_start (y : Pt) (p : Pp) : upTo y y.lo p = false := by unfold upTo; rw [decide_eq_false_iff_not]; omega
theorem upTo_end {y : Pt} {key : Int} (hk : key = y.hi + 1) (p : Pp) : upTo y key p = holdsB y p := by
  unfold upTo holdsB
  rw [decide_eq_decide]
  omega
theorem upTo_succ (y : Pt) (key : Int) (h : y.lo ≤ key) (p : Pp) : upTo y (key + 1) p = (upTo y key p || decide (p = (y.rank, key + y.shift))) := by
  obtain ⟨a, b⟩ := p
  unfold upTo
  rw [Bool.eq_iff_iff, Bool.or_eq_true, decide_eq_true_iff, decide_eq_true_iff, decide_eq_true_iff, Prod.mk.injEq]
  simp only
  omega
theorem seenB_succ {x : St} {j : Nat} (h : j < x.parts.length) (p : Pp) : seenB x (j + 1) p = (seenB x j p || holdsB x.parts[j] p) := by
  unfold seenB
  rw [List.take_succ_eq_append_getElem h, List.any_append]
  simp
theorem seenB_all (x : St) (p : Pp) : seenB x x.parts.length p = usesB x p := by unfold seenB usesB; rw [List.take_length]
/-- Two rows with elements of two types lie apart. -/
theorem row_apart {W : World} {b1 b2 : Nat} {t1 t2 : TypeId} {k1 k2 n1 n2 : Nat} {v u : Value} {xs ys : List Value} (h : W.ownsRow b1 t1 k1 v n1 xs) (h' : W.ownsRow b2 t2 k2 u n2 ys) (ht : t1 ≠ t2) : v.ownBlock = none ∨ v.ownBlock ≠ u.ownBlock := by
  rcases h.2 with ⟨rfl, _⟩ | ⟨g, cap, cur, rfl, _, hg, _⟩
  · exact .inl rfl
  · refine .inr ?_
    rcases h'.2 with ⟨rfl, _⟩ | ⟨g', cap', cur', rfl, _, hg', _⟩
    · simp [Value.ownBlock]
    · simp only [Value.ownBlock, ne_eq, Option.some.injEq]
      intro e
      rw [← e, hg] at hg'
      cases hg'
      exact ht rfl
theorem ownBlock_lt {W : World} {b1 : Nat} {t1 : TypeId} {k1 n1 : Nat} {v : Value} {xs : List Value} (h : W.ownsRow b1 t1 k1 v n1 xs) {j : Nat} (e : v.ownBlock = some j) : j < W.heap.size := by
  rcases h.2 with ⟨rfl, _⟩ | ⟨g, cap, cur, rfl, _, hg, _⟩
  · cases e
  · cases e
    exact (Array.getElem?_eq_some_iff.1 hg).1
def iC (n : Int) : List Value := [.int .i64 n]
def iCs (l : List Int) : List Value := l.map (Value.int .i64)
theorem iCs_flat (l : List Int) : iCs l = (l.map iC).flatten := by
  induction l with
  | nil => rfl
  | cons a l ih => simp [iCs, iC] at *; exact ih
theorem ints_info : (Tryd.prog.info? 3).map (fun i => (i.zero, i.size, i.bytes)) = some (some (.int .i64 0), 1, 8) := by kernel_rfl
theorem ARd.of_ints {W : World} {base : Nat} {t : TypeId} {v : Value} {l : List Int} (h : W.ownsRow base t 1 v l.length (iCs l)) : ARd W v 1 (l.map iC) :=
  ARd.of_row (by intro r hr; obtain ⟨p, _, rfl⟩ := List.mem_map.1 hr; rfl) (by rw [List.length_map, ← iCs_flat]; exact h)
def shC (g : Pp → Value) (p : Pp) : List Value := [.int .i64 p.1, .int .i64 p.2, g p]
def shCs (g : Pp → Value) (l : List Pp) : List Value := (l.map (shC g)).flatten
theorem sh_info : (Tryd.prog.info? 49).map (fun i => (i.zero, i.size, i.bytes)) = some (some (.agg #[.int .i64 0, .int .i64 0, .slice none 0 0]), 3, 40) := by kernel_rfl
/-- A list of shares that a call made: the pipes done, the numbers of each. -/
structure ShOut (W : World) (base : Nat) (v : Value) (done : List Pp) (f : Pp → List Int) : Prop where
  ex : ∃ g : Pp → Value, W.ownsRow base 49 3 v done.length (shCs g done) ∧ ∀ p ∈ done, W.ownsRow base 3 1 (g p) (f p).length (iCs (f p))
theorem ShOut.later {W W' : World} {base : Nat} {v : Value} {done : List Pp} {f : Pp → List Int} (h : ShOut W base v done f) (hb : Below W.heap.size W W') : ShOut W' base v done f := by
  obtain ⟨g, h1, h2⟩ := h
  exact ⟨g, row_later h1 hb, fun p hp => row_later (h2 p hp) hb⟩
theorem ShOut.none (W : World) (base : Nat) (f : Pp → List Int) : ShOut W base (.slice Option.none 0 0) [] f := ⟨fun _ => .int .i64 0, World.ownsRow_nil _ _ _ _, fun p h => by cases h⟩
theorem shCs_snoc (g : Pp → Value) (l : List Pp) (p : Pp) : shCs g (l ++ [p]) = shCs g l ++ [.int .i64 p.1, .int .i64 p.2, g p] := by simp [shCs, shC]
theorem ShOut.push {W W' : World} {o : Obj} {base n : Nat} {v v' u : Value} {done : List Pp} {f : Pp → List Int} {p : Pp} {g : Pp → Value} (h1 : W.ownsRow base 49 3 v done.length (shCs g done)) (h2 : ∀ p ∈ done, W.ownsRow base 3 1 (g p) (f p).length (iCs (f p)))
    (hp : p ∉ done) (hu : W.ownsRow base 3 1 u (f p).length (iCs (f p))) (hrow : W'.ownsRow base 49 3 v' n (shCs g done ++ [.int .i64 p.1, .int .i64 p.2, u])) (hn : n = done.length + 1) (hg : (W.alloc o).grownBy W' v.ownBlock) :
    ShOut W' base v' (done ++ [p]) f := by
  have hal : Below W.heap.size W (W.alloc o) := (Below.refl _ _).alloc (Nat.le_refl _) _
  have keep : ∀ {q : Value} {k : Nat} {xs : List Value}, W.ownsRow base 3 1 q k xs → W'.ownsRow base 3 1 q k xs := fun h => by
    have h' := row_later h hal
    exact h'.kept hg (row_apart h' (row_later h1 hal) (by decide))
  have hc : shCs g done = shCs (fun q => if q = p then u else g q) done := by
    unfold shCs
    congr 1
    apply List.map_congr_left
    intro q hq
    unfold shC
    show _ = [Value.int .i64 q.1, Value.int .i64 q.2, if q = p then u else g q]
    rw [if_neg (fun (e : q = p) => hp (by rw [← e]; exact hq))]
  refine ⟨fun q => if q = p then u else g q, ?_, ?_⟩
  · rw [shCs_snoc, ← hc, if_pos rfl, List.length_append, List.length_singleton, ← hn]
    exact hrow
  · intro q hq
    rcases List.mem_append.1 hq with hq | hq
    · have e : (if q = p then u else g q) = g q := if_neg (fun (e : q = p) => hp (by rw [← e]; exact hq))
      show W'.ownsRow base 3 1 (if q = p then u else g q) _ _
      rw [e]
      exact keep (h2 q hq)
    · rw [List.mem_singleton] at hq
      subst hq
      show W'.ownsRow base 3 1 (if q = q then u else g q) _ _
      rw [if_pos rfl]
      exact keep hu
structure UsSt (w : World) (ca cx cp : Array Value) (W : World) : Prop where
  sp : Blk W w.heap.size 27 ca
  st : Blk W (w.heap.size + 1) 61 cx
  pp : Blk W (w.heap.size + 2) 46 cp
  low : Below w.heap.size w W
theorem UsSt.below {w W W' : World} {ca cx cp : Array Value} (h : UsSt w ca cx cp W) (hb : Below W.heap.size W W') : UsSt w ca cx cp W' := ⟨h.sp.below hb, h.st.below hb, h.pp.below hb, below_step h.low hb⟩
theorem blkAt {W : World} {B : Nat} {t : TypeId} {cs : Array Value} (hn : B = W.heap.size) : Blk (W.alloc (.cells cs t)) B t cs := by subst hn; exact Blk.new _ _ _
theorem UsSt.new (w : World) (ca cx cp : Array Value) : UsSt w ca cx cp (((w.alloc (.cells ca 27)).alloc (.cells cx 61)).alloc (.cells cp 46)) where
  sp := ((Blk.new w _ _).alloc _).alloc _
  st := (blkAt (by simp)).alloc _
  pp := blkAt (by simp)
  low := (((Below.refl _ w).alloc (Nat.le_refl _) _).alloc (by simp) _).alloc (by simp; omega) _
set_option maxRecDepth 100000 in
set_option maxHeartbeats 3200000 in
theorem ruses_any (v1 v2 v3 v4 : Value) (x : St) (v : Value) (p : Pp) (w : World) (hv : ARd w v 4 (x.parts.map ptC)) (hl : x.parts.length ≤ 1000) (hr : ∀ y ∈ x.parts, -96 ≤ y.shift ∧ y.shift ≤ 96) (hk : -1000 ≤ p.2 ∧ p.2 ≤ 1000) :
    Calls Tryd.prog 44 #[.agg #[v1, v2, v3, v4], .agg #[.string x.name, .int .i64 x.div, .int .i64 x.num, .int .i64 x.den, v], .agg #[.int .i64 p.1, .int .i64 p.2]] w fun e w' => e = .returned (.bool (usesB x p)) ∧ Below w.heap.size w w' := by
  obtain ⟨a, c, ev⟩ := hv.form
  rw [List.length_map] at ev
  subst ev
  have HV := Lib.hid hv
  have HR := Lib.hid hr
  have HST := Lib.hid (UsSt.new w #[v1, v2, v3, v4] #[.string x.name, .int .i64 x.div, .int .i64 x.num, .int .i64 x.den, .slice a x.parts.length c] #[.int .i64 p.1, .int .i64 p.2])
  obtain ⟨p1, p2⟩ := p
  simp only at *
  clear hv hr
  go_enter Tryd.func44, Tryd.ntmps44
  go_wp2
  go_loopw [7] (fun n wr => ∃ k : Nat, k ≤ x.parts.length ∧ n = .int .i64 k ∧ RowKit.Hid (∀ j (h : j < x.parts.length), j < k → holdsB x.parts[j] (p1, p2) = false) ∧ RowKit.Hid (UsSt w #[v1, v2, v3, v4] #[.string x.name, .int .i64 x.div, .int .i64 x.num, .int .i64 x.den, .slice a x.parts.length c] #[.int .i64 p1, .int .i64 p2] wr)) (fun n _ => x.parts.length - (intOf n).toNat)
  case atStart => exact ⟨0, by omega, rfl, Lib.hid (fun j _ hj => by omega), HST⟩
  obtain ⟨k, hk', rfl, hE, hS⟩ := hrel
  have t3 := hS.out.st.cell 4
  by_cases hlt : k < x.parts.length
  · obtain ⟨b, o, c', ev', hbl, hc⟩ := (HV.out.later hS.out.low).at k (by simpa using hlt)
    rw [List.getElem_map] at hc
    have q0 : wr.cell? ⟨b, o + k * 4, none⟩ = some (.int .i64 x.parts[k].rank) := hc 0 _ rfl
    have q1 : wr.cell? ⟨b, o + k * 4 + 1, none⟩ = some (.int .i64 x.parts[k].shift) := hc 1 _ rfl
    have q2 : wr.cell? ⟨b, o + k * 4 + 2, none⟩ = some (.int .i64 x.parts[k].lo) := hc 2 _ rfl
    have q3 : wr.cell? ⟨b, o + k * 4 + 3, none⟩ = some (.int .i64 x.parts[k].hi) := hc 3 _ rfl
    rw [List.length_map] at ev'
    cases ev'
    have hk2 : (k : Int) < (x.parts.length : Int) := by omega
    obtain ⟨hsh1, hsh2⟩ := HR.out x.parts[k] (List.getElem_mem hlt)
    have u0 : ∀ cs, (wr.alloc (.cells cs 75)).cell? ⟨w.heap.size + 2, 0, none⟩ = some (.int .i64 p1) := fun cs => (hS.out.pp.alloc (.cells cs 75)).cell 0
    have u1 : ∀ cs, (wr.alloc (.cells cs 75)).cell? ⟨w.heap.size + 2, 1, none⟩ = some (.int .i64 p2) := fun cs => (hS.out.pp.alloc (.cells cs 75)).cell 1
    have HSN := fun cs => Lib.hid (hS.out.below (W' := wr.alloc (.cells cs 75)) ((Below.refl _ _).alloc (Nat.le_refl _) _))
    obtain ⟨yr, hyr⟩ : ∃ z, z = x.parts[k].rank := ⟨_, rfl⟩
    have HYR := Lib.hid hyr
    rw [← hyr] at q0
    clear hyr hc
    by_cases g1 : yr = p1
    · have b1 : (yr == p1) = true := beq_iff_eq.2 g1
      by_cases g2 : x.parts[k].lo ≤ p2 - x.parts[k].shift
      · by_cases g3 : p2 - x.parts[k].shift ≤ x.parts[k].hi
        · have HT := Lib.hid (show usesB x (p1, p2) = true from List.any_eq_true.2 ⟨x.parts[k], List.getElem_mem hlt, decide_eq_true ⟨HYR.out.symm.trans g1, g2, g3⟩⟩)
          clear g1
          go_wp2
          go_ret
          exact ⟨by rw [HT.out]; rfl, (HSN _).out.low⟩
        · have HF := Lib.hid (show holdsB x.parts[k] (p1, p2) = false from decide_eq_false (fun h => g3 h.2.2))
          clear g1
          go_wp2
          go_roundw
          case rel => exact ⟨k + 1, by omega, by go_num, Lib.hid (fun j h hj => by rcases Nat.lt_succ_iff_lt_or_eq.1 hj with h' | h'; exact hE.out j h h'; subst h'; exact HF.out), HSN _⟩
          case measure => simp [intOf]; omega
      · have HF := Lib.hid (show holdsB x.parts[k] (p1, p2) = false from decide_eq_false (fun h => g2 h.2.1))
        clear g1
        go_wp2
        go_roundw
        case rel => exact ⟨k + 1, by omega, by go_num, Lib.hid (fun j h hj => by rcases Nat.lt_succ_iff_lt_or_eq.1 hj with h' | h'; exact hE.out j h h'; subst h'; exact HF.out), HSN _⟩
        case measure => simp [intOf]; omega
    · have b1 : (yr == p1) = false := beq_eq_false_iff_ne.2 g1
      have HF := Lib.hid (show holdsB x.parts[k] (p1, p2) = false from decide_eq_false (fun h => g1 (HYR.out.trans h.1)))
      clear g1
      go_wp2
      go_roundw
      case rel => exact ⟨k + 1, by omega, by go_num, Lib.hid (fun j h hj => by rcases Nat.lt_succ_iff_lt_or_eq.1 hj with h' | h'; exact hE.out j h h'; subst h'; exact HF.out), HSN _⟩
      case measure => simp [intOf]; omega
  · have hk2 : ¬ ((k : Int) < (x.parts.length : Int)) := by omega
    have HF := Lib.hid (show usesB x (p1, p2) = false from List.any_eq_false.2 (fun y hy => by
      obtain ⟨j, hj, rfl⟩ := List.mem_iff_getElem.1 hy
      have := hE.out j hj (by omega)
      simpa using this))
    have HL := Lib.hid hS.out.low
    go_wp2
    go_ret
    exact ⟨by rw [HF.out]; rfl, HL.out⟩
end Go.Proofs.YtkddeliifadcoaaDoor
