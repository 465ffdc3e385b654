/-
  THE LAW SpecShares: SameInts; the walk.
-/
import Derived.Test.YtkddeliifadcoaaDoorF1
import Derived.Test.YtkddeliifadcoaaDoorF3
import Derived.Test.YtkddeliifadcoaaDoorG4
namespace Go.Proofs.YtkddeliifadcoaaDoor
open Go.RowKit
set_option maxRecDepth 100000 in
set_option maxHeartbeats 3200000 in
theorem same_ints (l : List Int) (v u : Value) (w : World) (hv : ARd w v 1 (l.map iC)) (hu : ARd w u 1 (l.map iC)) (hl : l.length ≤ 100000) :
    Calls Tryd.prog 17 #[v, u] w fun e w' => e = .returned (.bool true) ∧ Below w.heap.size w w' := by
  obtain ⟨a, c, ev⟩ := hv.form
  obtain ⟨a2, c2, eu⟩ := hu.form
  rw [List.length_map] at ev eu
  subst ev
  subst eu
  have HV := Lib.hid hv
  have HU := Lib.hid hu
  go_enter Tryd.func17, Tryd.ntmps17
  go_wp2
  go_loopw [5] (fun x wr => ∃ k : Nat, k ≤ l.length ∧ x = .int .i64 k ∧ RowKit.Hid (Below w.heap.size w wr)) (fun x _ => l.length - (intOf x).toNat)
  case atStart => exact ⟨0, by omega, rfl, Lib.hid (Below.refl _ _)⟩
  obtain ⟨k, hk, rfl, hW⟩ := hrel
  by_cases hlt : k < l.length
  · obtain ⟨b, o, c', ev', hbl, hc⟩ := (HV.out.later hW.out).at k (by simpa using hlt)
    obtain ⟨b2, o2, c2', eu', hbl2, hc2⟩ := (HU.out.later hW.out).at k (by simpa using hlt)
    rw [List.getElem_map] at hc hc2
    rw [List.length_map] at ev' eu'
    have q0 : wr.cell? ⟨b, o + k, none⟩ = some (.int .i64 l[k]) := by have := hc 0 _ rfl; rwa [Nat.mul_one] at this
    have r0 : wr.cell? ⟨b2, o2 + k, none⟩ = some (.int .i64 l[k]) := by have := hc2 0 _ rfl; rwa [Nat.mul_one] at this
    cases ev'
    cases eu'
    have hk2 : (k : Int) < (l.length : Int) := by omega
    go_wp2_with fail
    go_quiet (fail)
    go_wp2
    go_roundw
    case rel => exact ⟨k + 1, by omega, by go_num, Lib.hid (below_drewN hW.out nq)⟩
    case measure => simp [intOf]; omega
  · have hk2 : ¬ ((k : Int) < (l.length : Int)) := by omega
    go_wp2
    go_ret
    exact ⟨rfl, hW.out⟩
/-- A list of shares that can be read. -/
def ShRd (w : World) (v : Value) (r : List (Pp × List Int)) : Prop := ∃ g : Pp → Value, ARd w v 3 (r.map fun q => shC g q.1) ∧ ∀ q ∈ r, ARd w (g q.1) 1 (q.2.map iC)
theorem ShRd.later {w w' : World} {v : Value} {r : List (Pp × List Int)} (h : ShRd w v r) (hb : Below w.heap.size w w') : ShRd w' v r := by
  obtain ⟨g, h1, h2⟩ := h
  exact ⟨g, h1.later hb, fun q hq => (h2 q hq).later hb⟩
theorem ShOut.rd {W : World} {base : Nat} {v : Value} {done : List Pp} {f : Pp → List Int} (h : ShOut W base v done f) : ShRd W v (done.map fun p => (p, f p)) := by
  obtain ⟨g, h1, h2⟩ := h
  refine ⟨g, ?_, fun q hq => ?_⟩
  · rw [List.map_map]
    exact ARd.of_row (rows := done.map (shC g)) (by intro r hr; obtain ⟨p, _, rfl⟩ := List.mem_map.1 hr; rfl) (by rw [List.length_map]; exact h1)
  · obtain ⟨p, hp, rfl⟩ := List.mem_map.1 hq
    exact ARd.of_ints (h2 p hp)
theorem ShRd.form {w : World} {v : Value} {r : List (Pp × List Int)} (h : ShRd w v r) : ∃ a c, v = .slice a r.length c := by
  obtain ⟨g, h1, _⟩ := h
  obtain ⟨a, c, e⟩ := h1.form
  exact ⟨a, c, by simpa using e⟩
theorem ShRd.at {w : World} {v : Value} {r : List (Pp × List Int)} (h : ShRd w v r) (k : Nat) (hk : k < r.length) : ∃ b o c a3 c3, v = .slice (some ⟨b, o, none⟩) r.length c ∧ b < w.heap.size ∧ w.cell? ⟨b, o + k * 3, none⟩ = some (.int .i64 r[k].1.1) ∧ w.cell? ⟨b, o + k * 3 + 1, none⟩ = some (.int .i64 r[k].1.2) ∧
    w.cell? ⟨b, o + k * 3 + 2, none⟩ = some (.slice a3 r[k].2.length c3) ∧ ARd w (.slice a3 r[k].2.length c3) 1 (r[k].2.map iC) := by
  obtain ⟨g, h1, h2⟩ := h
  obtain ⟨b, o, c, e, hlt, hc⟩ := h1.at k (by simpa using hk)
  rw [List.getElem_map] at hc
  have h3 := h2 r[k] (List.getElem_mem hk)
  obtain ⟨a3, c3, e3⟩ := h3.form
  rw [List.length_map] at e3
  have hc2 := hc 2 _ rfl
  rw [e3] at h3 hc2
  exact ⟨b, o, c, a3, c3, by simpa using e, hlt, hc 0 _ rfl, hc 1 _ rfl, hc2, h3⟩
def ShRet (r : List (Pp × List Int) × Int) (w : World) (e : Ending) (w' : World) : Prop := ∃ a c, e = .returned (.tuple #[.slice a r.1.length c, .int .i64 r.2]) ∧ ShRd w' (.slice a r.1.length c) r.1 ∧ Below w.heap.size w w'
theorem ShEnds.ret {r : List (Pp × List Int) × Int} {w : World} {e : Ending} {w' : World} (h : ShEnds r w e w') : ShRet r w e w' := by
  obtain ⟨v, done, f, he, hr, ho, hb⟩ := h
  have hrd := ho.rd
  rw [← hr] at hrd
  obtain ⟨a, c, rfl⟩ := hrd.form
  exact ⟨a, c, he, hrd, hb⟩
theorem shared_len (S : Sp) : (sharedP S).1.length ≤ 100000 ∧ ∀ q ∈ (sharedP S).1, q.2.length ≤ 100000 := by
  unfold sharedP
  by_cases hz : (checkP S).2 = 0
  · rw [if_pos hz]
    have g := spGood hz
    have hl := allFrom_len g.r 0
    have h1 := g.rs
    have h2 := g.ss
    constructor
    · show (shareP S).length ≤ _
      unfold shareP shareL
      rw [List.length_map]
      have := List.length_filter_le (fun p => decide (1 < (ub S.ss p S.ss.length).length)) (allFrom 0 S.rs)
      omega
    · intro q hq
      unfold shareP at hq
      obtain ⟨p, _, rfl⟩ := List.mem_map.1 hq
      have := ub_len (ss := S.ss) (p := p) (k := S.ss.length)
      show (ub S.ss p S.ss.length).length ≤ _
      omega
  · rw [if_neg hz]
    exact ⟨Nat.zero_le _, fun q hq => by cases hq⟩
set_option maxRecDepth 100000 in
set_option maxHeartbeats 6400000 in
theorem specShares_walk (v1 v2 v3 v4 : Value) (S : Sp) (w : World) (t : Tabs w) (f : Nat → Value) (hsp : SpRd w v1 v2 v3 v4 f S) :
    Calls Tryd.prog 4 #[.agg #[v1, v2, v3, v4]] w fun e w' => e = .returned (.bool true) ∧ Below w.heap.size w w' := by
  have hb0 : Below w.heap.size w (w.alloc (.cells #[v1, v2, v3, v4] 27)) := (Below.refl _ w).alloc (Nat.le_refl _) _
  have k0 : Blk (w.alloc (.cells #[v1, v2, v3, v4] 27)) w.heap.size 27 #[v1, v2, v3, v4] := Blk.new w _ _
  have HSP := Lib.hid hsp
  have HT := Lib.hid t
  have HB0 := Lib.hid hb0
  have HK0 := Lib.hid k0
  obtain ⟨r, er, hr⟩ : ∃ r er, sharedP S = (r, er) := ⟨_, _, rfl⟩
  have HSL := Lib.hid (show r.length ≤ 100000 ∧ ∀ q ∈ r, q.2.length ≤ 100000 by have := shared_len S; rw [hr] at this; exact this)
  have hrl := HSL.out.1
  have HR := Lib.hid hr
  clear hsp t k0 hr
  go_enter Tryd.func4, Tryd.ntmps4
  go_wp2_with fail
  refine (far_any v1 v2 v3 v4 S _ f (HSP.out.later hb0)).mono ?_
  rintro e w1 ⟨b, rfl, hok, hb1⟩
  have HB1 := Lib.hid (below_step HB0.out hb1)
  have HK1 := Lib.hid (HK0.out.below hb1)
  have HOK := Lib.hid hok
  clear hb1 hok hb0
  cases b with
  | true =>
    go_wp2_with fail
    refine (shown_any w1 (HT.out.below HB1.out)).mono ?_
    rintro e w2 ⟨rfl, hb2⟩
    have HB2 := Lib.hid (below_step HB1.out hb2)
    clear hb2
    go_wp2
    go_ret
    exact ⟨rfl, HB2.out⟩
  | false =>
    have OK := Lib.hid (HOK.out rfl)
    clear HOK
    obtain ⟨s0, s1, s2, s3⟩ := HK1.out.four
    go_wp2_with fail
    refine (shared_any v1 v2 v3 v4 S OK.out w1 (HT.out.below HB1.out) f (HSP.out.later HB1.out)).mono ?_
    rw [HR.out]
    rintro e w2 hsh
    obtain ⟨a1, c1, rfl, hrd1, hb2⟩ := hsh.ret
    have HB2 := Lib.hid (below_step HB1.out hb2)
    have HK2 := Lib.hid (HK1.out.below hb2)
    have HA := Lib.hid hrd1
    clear hb2 hrd1 s0 s1 s2 s3 HK1 hsh
    obtain ⟨s0, s1, s2, s3⟩ := HK2.out.four
    go_wp2_with fail
    refine (rshared_any v1 v2 v3 v4 S OK.out _ f (HSP.out.later HB2.out)).mono ?_
    rw [HR.out]
    rintro e w3 hsh
    obtain ⟨a2, c2, rfl, hrd2, hb3⟩ := hsh.ret
    have HB3 := Lib.hid (below_step HB2.out hb3)
    have HA3 := Lib.hid (HA.out.later hb3)
    have HB := Lib.hid hrd2
    clear hb3 hrd2 s0 s1 s2 s3 HK2 hsh HA
    have e1 : (er == er) = true := by simp
    have hrefl : RowKit.Hid (Below w3.heap.size w3 w3) := Lib.hid (Below.refl _ _)
    go_wp2
    go_loopw [7] (fun x wr => ∃ k : Nat, k ≤ r.length ∧ x = .int .i64 k ∧ RowKit.Hid (Below w3.heap.size w3 wr)) (fun x _ => r.length - (intOf x).toNat)
    case atStart => exact ⟨0, by omega, rfl, hrefl⟩
    clear hrefl
    obtain ⟨k, hk, rfl, hW⟩ := hrel
    by_cases hlt : k < r.length
    · obtain ⟨ba, oa, ca, a3, c3, ea, hba, p0, p1, p2, hr3⟩ := (HA3.out.later hW.out).at k hlt
      obtain ⟨bb, ob, cb, a4, c4, eb, hbb, q0, q1, q2, hr4⟩ := (HB.out.later hW.out).at k hlt
      have hkk : (k : Int) < (r.length : Int) := by omega
      have hql := HSL.out.2 r[k] (List.getElem_mem hlt)
      cases ea
      cases eb
      obtain ⟨p, n3, is, hq⟩ : ∃ p n3 is, r[k] = (p, is) ∧ n3 = is.length := ⟨_, _, _, rfl, rfl⟩
      rw [hq.1] at p0 p1 p2 q0 q1 q2 hr3 hr4 hql
      simp only at p0 p1 p2 q0 q1 q2 hr3 hr4 hql
      rw [← hq.2] at p2 q2 hr3 hr4
      have HSI := Lib.hid (fun W (hW2 : Below wr.heap.size wr W) => same_ints is _ _ W (hr3.later hW2) (hr4.later hW2) hql)
      have he := nePp (p := p) (q := p) (decide_eq_true rfl)
      have hdr : Below wr.heap.size wr wr.drew := (Below.refl _ _).drew
      clear hr3 hr4 hq hql
      go_wp2_with fail
      go_region_held3 (fun w' => Below wr.heap.size wr w' ∧ w'.cell? ⟨ba, oa + k * 3, none⟩ = some (.int .i64 p.1) ∧ w'.cell? ⟨ba, oa + k * 3 + 1, none⟩ = some (.int .i64 p.2) ∧ w'.cell? ⟨ba, oa + k * 3 + 2, none⟩ = some (.slice a3 n3 c3) ∧ w'.cell? ⟨bb, ob + k * 3, none⟩ = some (.int .i64 p.1) ∧ w'.cell? ⟨bb, ob + k * 3 + 1, none⟩ = some (.int .i64 p.2) ∧ w'.cell? ⟨bb, ob + k * 3 + 2, none⟩ = some (.slice a4 n3 c4)) (first | exact ⟨hdr, p0, p1, p2, q0, q1, q2⟩ | assumption) (first | (go_at_call 17; refine (HSI.out _ (by first | exact And.left (by assumption) | exact hdr)).mono ?_; rintro e w2 ⟨rfl, hb2⟩; have hn := hold6 (by assumption) hb2; clear hb2))
      go_wp2
      go_roundw
      case rel => exact ⟨k + 1, by omega, by go_num, Lib.hid (below_step hW.out hn.1)⟩
      case measure => simp [intOf]; omega
    · have hkk : ¬ ((k : Int) < (r.length : Int)) := by omega
      have HB4 := Lib.hid (below_step HB3.out hW.out)
      go_wp2_with fail
      refine (shown_any wr (HT.out.below HB4.out)).mono ?_
      rintro e w5 ⟨rfl, hb5⟩
      have HB5 := Lib.hid (below_step HB4.out hb5)
      clear hb5
      go_wp2
      go_ret
      exact ⟨rfl, HB5.out⟩
end Go.Proofs.YtkddeliifadcoaaDoor
