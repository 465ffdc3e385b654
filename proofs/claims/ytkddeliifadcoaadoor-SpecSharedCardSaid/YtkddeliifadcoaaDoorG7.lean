/-
  THE LAW SpecShared: the walk.
-/
import Derived.Test.YtkddeliifadcoaaDoorG6
namespace Go.Proofs.YtkddeliifadcoaaDoor
open Go.RowKit
/-- Two rows that lie apart, each appended to. -/
theorem apart_next {va va' vb vb' : Value} {n4 n5 : Nat} (h : va.ownBlock = none ∨ va.ownBlock ≠ vb.ownBlock) (hb : ∀ j, vb.ownBlock = some j → j < n4) (h45 : n4 ≤ n5) (ha' : va'.ownBlock = va.ownBlock ∨ va'.ownBlock = some n4) (hb' : vb'.ownBlock = vb.ownBlock ∨ vb'.ownBlock = some n5) (hlt : ∀ j, va'.ownBlock = some j → j < n5) : va'.ownBlock = none ∨ va'.ownBlock ≠ vb'.ownBlock := by
  rcases ha' with e1 | e1 <;> rcases hb' with e2 | e2
  · rw [e1, e2]; exact h
  · cases hv : va'.ownBlock with
    | none => exact .inl rfl
    | some j => right; rw [e2]; intro e; have := hlt j hv; cases e; omega
  · right
    rw [e1, e2]
    intro e
    have := hb _ e.symm
    omega
  · right
    rw [e1, e2]
    intro e
    have := hlt _ e1
    cases e
    omega
theorem apart_swap {va vb : Value} (h : va.ownBlock = none ∨ va.ownBlock ≠ vb.ownBlock) : vb.ownBlock = none ∨ vb.ownBlock ≠ va.ownBlock := by
  rcases h with h | h
  · cases hv : vb.ownBlock with
    | none => exact .inl rfl
    | some j => right; rw [h]; simp
  · exact .inr (Ne.symm h)
theorem apart_old {u v : Value} {n : Nat} (hu : ∀ j, u.ownBlock = some j → n ≤ j) (hv : ∀ j, v.ownBlock = some j → j < n) : u.ownBlock = none ∨ u.ownBlock ≠ v.ownBlock := by
  cases h : u.ownBlock with
  | none => exact .inl rfl
  | some j => right; intro e; have := hu j h; have := hv j e.symm; omega
/-- Both lists so far. -/
structure TwoRows (W : World) (base : Nat) (va vb : Value) (la lb : List Pp) : Prop where
  a : W.ownsRow base 46 2 va la.length (ppCs la)
  b : W.ownsRow base 46 2 vb lb.length (ppCs lb)
  ap : va.ownBlock = none ∨ va.ownBlock ≠ vb.ownBlock
theorem ppCs_append (l m : List Pp) : ppCs (l ++ m) = ppCs l ++ ppCs m := by unfold ppCs; rw [List.map_append, List.flatten_append]
/-- What a share says of the stops. -/
theorem share_in {S : Sp} (hz : (checkP S).2 = 0) {r : List (Pp × List Int)} {er : Int} (hr : sharedP S = (r, er)) {q : Pp × List Int} (hq : q ∈ r) : 2 ≤ q.2.length ∧ ∀ i : Nat, i < S.ss.length → (((i : Int) ∈ q.2) ↔ usesAt S.ss i q.1 = true) := by
  unfold sharedP at hr
  rw [if_pos hz] at hr
  cases hr
  unfold shareP at hq
  obtain ⟨p, hp, rfl⟩ := List.mem_map.1 hq
  refine ⟨(mem_shareL (spGood hz)).1 hp, fun i hi => ?_⟩
  show (i : Int) ∈ ub S.ss p S.ss.length ↔ _
  rw [mem_ub]
  constructor
  · rintro ⟨j, _, e, h⟩
    rw [show i = j by omega]
    exact h
  · intro h
    exact ⟨i, hi, rfl, h⟩
theorem two_mem {l : List Int} {a b : Int} (ha : a ∈ l) (hb : b ∈ l) (h : a ≠ b) : 1 < l.length := by
  match l with
  | [] => cases ha
  | [x] =>
    rw [List.mem_singleton] at ha hb
    exact absurd (ha.trans hb.symm) h
  | _ :: _ :: _ => simp
theorem share_found {S : Sp} (hz : (checkP S).2 = 0) {r : List (Pp × List Int)} {er : Int} (hr : sharedP S = (r, er)) {i k : Nat} (hi : i < S.ss.length) (hk : k < S.ss.length) (hik : i ≠ k) {p : Pp} (h1 : usesAt S.ss i p = true) (h2 : usesAt S.ss k p = true) : ∃ q ∈ r, q.1 = p := by
  unfold sharedP at hr
  rw [if_pos hz] at hr
  cases hr
  refine ⟨(p, ub S.ss p S.ss.length), ?_, rfl⟩
  unfold shareP
  refine List.mem_map.2 ⟨p, (mem_shareL (spGood hz)).2 ?_, rfl⟩
  exact two_mem (mem_ub.2 ⟨i, hi, rfl, h1⟩) (mem_ub.2 ⟨k, hk, rfl, h2⟩) (by omega)
theorem mem_take_next {l : List Int} {m : Nat} (h : m < l.length) (a : Int) : decide (a ∈ l.take (m + 1)) = (decide (a ∈ l.take m) || (l[m] == a)) := by
  have hd : decide (a ∈ l.take (m + 1)) = decide (a ∈ l.take m ∨ a = l[m]) := by
    rw [List.take_succ_eq_append_getElem h]
    exact decide_eq_decide.2 (by rw [List.mem_append, List.mem_singleton])
  rw [hd, Bool.decide_or]
  congr 1
  by_cases e : l[m] = a
  · rw [decide_eq_true e.symm, beq_iff_eq.2 e]
  · rw [decide_eq_false (fun q => e q.symm), beq_eq_false_iff_ne.2 e]
def hasB (r : List (Pp × List Int)) (p : Pp) : Bool := r.any fun q => decide (q.1 = p)
theorem hasB_next {r : List (Pp × List Int)} {m : Nat} (h : m < r.length) (p : Pp) : hasB (r.take (m + 1)) p = (hasB (r.take m) p || decide (r[m].1 = p)) := by
  unfold hasB
  rw [List.take_succ_eq_append_getElem h, List.any_append]
  simp
theorem hasB_all {r : List (Pp × List Int)} {p : Pp} (h : ∃ q ∈ r, q.1 = p) : hasB r p = true := by
  obtain ⟨q, hq, e⟩ := h
  unfold hasB
  exact List.any_eq_true.2 ⟨q, hq, decide_eq_true e⟩
set_option maxRecDepth 100000 in
set_option maxHeartbeats 6400000 in
theorem specShared_walk (v1 v2 v3 v4 : Value) (S : Sp) (one two : Int) (w : World) (t : Tabs w) (f : Nat → Value) (hsp : SpRd w v1 v2 v3 v4 f S) (ho1 : 0 ≤ one) (ho2 : one < 256) (ht1 : 0 ≤ two) (ht2 : two < 256) :
    Calls Tryd.prog 5 #[.agg #[v1, v2, v3, v4], .int .u8 one, .int .u8 two] w fun e w' => e = .returned (.bool true) ∧ Below w.heap.size w w' := by
  have hb0 : Below w.heap.size w (w.alloc (.cells #[v1, v2, v3, v4] 27)) := (Below.refl _ w).alloc (Nat.le_refl _) _
  have k0 : Blk (w.alloc (.cells #[v1, v2, v3, v4] 27)) w.heap.size 27 #[v1, v2, v3, v4] := Blk.new w _ _
  have HSP := Lib.hid hsp
  have HT := Lib.hid t
  have HB0 := Lib.hid hb0
  have HK0 := Lib.hid k0
  obtain ⟨r, er, hr⟩ : ∃ r er, sharedP S = (r, er) := ⟨_, _, rfl⟩
  have HSL := Lib.hid (show r.length ≤ 100000 ∧ ∀ q ∈ r, q.2.length ≤ 100000 by have := shared_len S; rw [hr] at this; exact this)
  have hrl := HSL.out.1
  have HR := Lib.hid hr
  obtain ⟨_, _, ⟨a3, c3, ev3⟩, _⟩ := hsp.forms
  subst ev3
  clear hsp t k0 hr
  go_enter Tryd.func5, Tryd.ntmps5
  go_wp2_with fail
  refine (far_any _ _ _ _ S _ f (HSP.out.later hb0)).mono ?_
  rintro e w1 ⟨b, rfl, hok, hb1⟩
  have HB1 := Lib.hid (below_step HB0.out hb1)
  have HK1 := Lib.hid (HK0.out.below hb1)
  have HOK := Lib.hid hok
  clear hb1 hok hb0
  cases b with
  | true =>
    go_wp2_with fail
    refine (shown_any w1 (HT.out.below HB1.out)).mono ?_
    rintro e w2 ⟨rfl, hb2⟩
    have HB2 := Lib.hid (below_step HB1.out hb2)
    clear hb2
    go_wp2
    go_ret
    exact ⟨rfl, HB2.out⟩
  | false =>
    have OK := Lib.hid (HOK.out rfl)
    clear HOK
    obtain ⟨s0, s1, s2, s3⟩ := HK1.out.four
    go_wp2_with fail
    refine (shared_any _ _ _ _ S OK.out w1 (HT.out.below HB1.out) f (HSP.out.later HB1.out)).mono ?_
    rw [HR.out]
    rintro e w2 hsh
    obtain ⟨a1, c1, rfl, hrd1, hb2⟩ := hsh.ret
    have HB2 := Lib.hid (below_step HB1.out hb2)
    have HK2 := Lib.hid (HK1.out.below hb2)
    have HA := Lib.hid hrd1
    clear hb2 hrd1 s0 s1 s2 s3 HK1 hsh
    obtain ⟨s0, s1, s2, s3⟩ := HK2.out.four
    by_cases her : er = 0
    · subst her
      by_cases hss : S.ss.length = 0
      · have b1 : ((S.ss.length : Int) == 0) = true := by rw [beq_iff_eq]; omega
        go_wp2_with fail
        refine (shown_any w2 (HT.out.below HB2.out)).mono ?_
        rintro e w3 ⟨rfl, hb3⟩
        have HB3 := Lib.hid (below_step HB2.out hb3)
        clear hb3
        go_wp2
        go_ret
        exact ⟨rfl, HB3.out⟩
      · have b1 : ((S.ss.length : Int) == 0) = false := by rw [beq_eq_false_iff_ne]; omega
        have hpos : (0 : Int) < (S.ss.length : Int) := by omega
        have hpos2 : 0 < S.ss.length := by omega
        go_wp2_with fail
        go_quiet (fail)
        obtain ⟨i, hi⟩ : ∃ i : Nat, one % (S.ss.length : Int) = i := ⟨(one % (S.ss.length : Int)).toNat, by have := Int.emod_nonneg one (show (S.ss.length : Int) ≠ 0 by omega); omega⟩
        obtain ⟨k, hk⟩ : ∃ k : Nat, two % (S.ss.length : Int) = k := ⟨(two % (S.ss.length : Int)).toNat, by have := Int.emod_nonneg two (show (S.ss.length : Int) ≠ 0 by omega); omega⟩
        have hil : i < S.ss.length := by have := Int.emod_lt_of_pos one hpos; omega
        have hkl : k < S.ss.length := by have := Int.emod_lt_of_pos two hpos; omega
        have HZ := Lib.hid (show (checkP S).2 = 0 by
          have := HR.out
          unfold sharedP at this
          split at this
          · assumption
          · exact (Prod.mk.inj this).2)
        have HPL := Lib.hid (fun n => And.intro (pl_len (k := n) HZ.out hil) (pl_len (k := n) HZ.out hkl))
        have HI := Lib.hid hi
        have HK := Lib.hid hk
        obtain ⟨W0, hW0⟩ : ∃ W0, W0 = w2.drewN nq := ⟨_, rfl⟩
        have HW0 := Lib.hid hW0
        have HB0' : RowKit.Hid (Below w.heap.size w W0) := by rw [hW0]; exact Lib.hid (below_drewN HB2.out nq)
        have HK0' : RowKit.Hid (Blk W0 w.heap.size 27 #[v1, v2, .slice a3 S.ss.length c3, v4]) := by rw [hW0]; exact HK2
        have HA0 : RowKit.Hid (ShRd W0 (.slice a1 r.length c1) r) := by rw [hW0]; exact Lib.hid (HA.out.later (below_drewN (Below.refl _ _) nq))
        have hst : RowKit.Hid (TwoRows W0 W0.heap.size (.slice none 0 0) (.slice none 0 0) (pl S i 0) (pl S k 0)) := Lib.hid ⟨World.ownsRow_nil _ _ _ _, World.ownsRow_nil _ _ _ _, .inl rfl⟩
        have hrefl : RowKit.Hid (Below W0.heap.size W0 W0) := Lib.hid (Below.refl _ _)
        clear hi hk hW0 s0 s1 s2 s3 b1 hpos hpos2 hss
        go_wp2
        rw [HI.out, HK.out, ← HW0.out]
        clear HW0 HK2 HA HB2
        go_loopw [11, 12, 13] (fun va vb x wr => ∃ n : Nat, n ≤ 128 ∧ x = .int .i64 n ∧ RowKit.Hid (TwoRows wr W0.heap.size va vb (pl S i n) (pl S k n)) ∧ RowKit.Hid (Below W0.heap.size W0 wr)) (fun _ _ x _ => 128 - (intOf x).toNat)
        case atStart => exact ⟨0, by omega, rfl, hst, hrefl⟩
        clear hst hrefl
        obtain ⟨n, hn, rfl, hTR, hW⟩ := hrel
        by_cases hlt : n < 128
        · have HBw := Lib.hid (below_step HB0'.out hW.out)
          obtain ⟨s0, s1, s2, s3⟩ := (HK0'.out.below hW.out).four
          have hn2 : (n : Int) ≤ 127 := by omega
          obtain ⟨l1, x1, hl1⟩ : ∃ l1 x1, pipesOfP S i n = (l1, x1) := ⟨_, _, rfl⟩
          obtain ⟨l2, x2, hl2⟩ : ∃ l2 x2, pipesOfP S k n = (l2, x2) := ⟨_, _, rfl⟩
          have hx1 := pipesOf_two HZ.out hil (n : Int)
          have hx2 := pipesOf_two HZ.out hkl (n : Int)
          rw [hl1] at hx1
          rw [hl2] at hx2
          simp only at hx1 hx2
          obtain ⟨hx1, hln1⟩ := hx1
          obtain ⟨hx2, hln2⟩ := hx2
          have C1 := Lib.hid (pipesOf_any _ _ _ _ S OK.out i n wr (HT.out.below HBw.out) f (HSP.out.later HBw.out))
          rw [hl1] at C1
          have HL1 := Lib.hid (show pl S i (n + 1) = pl S i n ++ l1 by rw [pl, hl1])
          have HL2 := Lib.hid (show pl S k (n + 1) = pl S k n ++ l2 by rw [pl, hl2])
          have HP2 := Lib.hid hl2
          clear hl1 hl2
          go_wp2_with fail
          refine (C1.out).mono ?_
          rintro e w3 ⟨u1, rfl, hr1, hb3⟩
          have HB3 := Lib.hid (below_step hW.out hb3)
          have HBw3 := Lib.hid (below_step HBw.out hb3)
          have C2 := Lib.hid (pipesOf_any _ _ _ _ S OK.out k n w3 (HT.out.below HBw3.out) f (HSP.out.later HBw3.out))
          rw [HP2.out] at C2
          clear s0 s1 s2 s3
          obtain ⟨s0, s1, s2, s3⟩ := (HK0'.out.below HB3.out).four
          have HR1 := Lib.hid hr1
          have HB3s := Lib.hid hb3
          clear hr1 hb3
          go_wp2_with fail
          refine (C2.out).mono ?_
          rintro e w4 ⟨u2, rfl, hr2, hb4⟩
          have HB4 := Lib.hid (below_step HB3.out hb4)
          have hrow1 := row_later HR1.out hb4
          have h34 := HB3s.out.trans (hb4.mono HB3s.out.size)
          have hTa := row_later hTR.out.a h34
          have hTb := row_later hTR.out.b h34
          have hrd1 := ARd.of_pps hrow1
          have hrd2 := ARd.of_pps hr2
          obtain ⟨A1, d1, e1⟩ := hrd1.form
          obtain ⟨A2, d2, e2⟩ := hrd2.form
          rw [List.length_map] at e1 e2
          subst e1
          subst e2
          simp only at hrd1 hrd2 hrow1 hr2
          have hp1 := HPL.out n
          have hszr := hW.out.size
          have hsz4 := HB4.out.size
          have hwr4 := h34.size
          have HTa := Lib.hid hTa
          have HTb := Lib.hid hTb
          have HRD1 := Lib.hid hrd1
          have HRD2 := Lib.hid hrd2
          have HR2 := Lib.hid hr2
          have HS34 := Lib.hid hb4
          obtain ⟨hp1a, hp1b⟩ := hp1
          have hla : ∀ j, u11.ownBlock = some j → j < wr.heap.size := fun j e => ownBlock_lt hTR.out.a e
          have hlb : ∀ j, u12.ownBlock = some j → j < wr.heap.size := fun j e => ownBlock_lt hTR.out.b e
          have HLA := Lib.hid hla
          have HLB := Lib.hid hlb
          clear hla hlb hTa hTb hrd1 hrd2 hrow1 hr2 hb4 h34 s0 s1 s2 s3
          rcases hx1 with rfl | rfl <;> rcases hx2 with rfl | rfl
          all_goals
            go_wp2_with (first | (at_builtin; refine wpList_append_pps _ rfl (.tmp 86) (.tmp 87) rfl W0.heap.size _ _ _ rfl HTa.out l1 A1 d1 _ rfl rfl HRD1.out (by omega) hsz4 ?_; intro va' w5 hown5 hg5 hat5; have hvb5 := HTb.out.kept hg5 (apart_swap hTR.out.ap); have hx5 := ARd.of_pps (HR2.out.kept hg5 (apart_old (fun j e => row_ge HR2.out e) (fun j e => Nat.lt_of_lt_of_le (HLA.out j e) HB3s.out.size))); have hsz5 := hg5.size) | (at_builtin; refine wpList_append_pps _ rfl (.tmp 89) (.tmp 90) rfl W0.heap.size _ _ _ rfl hvb5 l2 A2 d2 _ rfl rfl hx5 (by omega) (by omega) ?_; intro vb' w6 hown6 hg6 hat6))
            refine ⟨⟨n + 1, by omega, rfl, Lib.hid ⟨?_, ?_, ?_⟩, Lib.hid ?_⟩, ?_⟩
            · rw [HL1.out, ppCs_append, List.length_append]
              exact hown5.kept hg6 (apart_next hTR.out.ap (fun j e => Nat.lt_of_lt_of_le (HLB.out j e) hwr4) hsz5 hat5 (.inl rfl) (fun j e => ownBlock_lt hown5 e))
            · rw [HL2.out, ppCs_append, List.length_append]
              exact hown6
            · exact apart_next hTR.out.ap (fun j e => Nat.lt_of_lt_of_le (HLB.out j e) hwr4) hsz5 hat5 hat6 (fun j e => ownBlock_lt hown5 e)
            · exact (HB4.out.grown hg5 hsz4 (fun j e => row_ge HTa.out e)).grown hg6 (by omega) (fun j e => row_ge HTb.out e)
            · simp [intOf]; omega
        · have he : n = 128 := by omega
          have hTa := hTR.out.a
          have hTb := hTR.out.b
          rw [he] at hTa hTb
          have hn127 : ¬ ((n : Int) ≤ 127) := by omega
          have hUA := Lib.hid (fun p => pl_uses HZ.out hil p)
          have hUB := Lib.hid (fun p => pl_uses HZ.out hkl p)
          have hLA := HPL.out 128
          have hda := ARd.of_pps hTa
          have hdb := ARd.of_pps hTb
          obtain ⟨la, hla⟩ : ∃ la, pl S i 128 = la := ⟨_, rfl⟩
          obtain ⟨lb, hlb⟩ : ∃ lb, pl S k 128 = lb := ⟨_, rfl⟩
          rw [hla] at hda hUA
          rw [hlb] at hdb hUB
          rw [hla, hlb] at hLA
          obtain ⟨hLA1, hLA2⟩ := hLA
          obtain ⟨ga, ca, ea⟩ := hda.form
          obtain ⟨gb, cb, eb⟩ := hdb.form
          rw [List.length_map] at ea eb
          subst ea
          subst eb
          have HDA := Lib.hid hda
          have HDB := Lib.hid hdb
          clear hTa hTb hda hdb hla hlb hTR HPL hlt hn he
          have HBR := Lib.hid (below_step HB0'.out hW.out)
          have HAR := Lib.hid (HA0.out.later hW.out)
          have hrefl : RowKit.Hid (Below wr.heap.size wr wr) := Lib.hid (Below.refl _ _)
          have HSH := Lib.hid (show ∀ q ∈ r, 2 ≤ q.2.length ∧ decide ((i : Int) ∈ q.2) = decide (q.1 ∈ la) ∧ decide ((k : Int) ∈ q.2) = decide (q.1 ∈ lb) from fun q hq => by
            obtain ⟨h1, h2⟩ := share_in HZ.out HR.out hq
            exact ⟨h1, decide_eq_decide.2 ((h2 i hil).trans (hUA.out q.1).symm), decide_eq_decide.2 ((h2 k hkl).trans (hUB.out q.1).symm)⟩)
          have HFD := Lib.hid (show i ≠ k → ∀ p, p ∈ la → p ∈ lb → hasB r p = true from fun hik p h1 h2 => hasB_all (share_found HZ.out HR.out hil hkl hik ((hUA.out p).1 h1) ((hUB.out p).1 h2)))
          clear hUA hUB HA0 hW
          rename World => W1
          go_wp2_with fail
          go_loopw [18] (fun x wr => ∃ n : Nat, n ≤ r.length ∧ x = .int .i64 n ∧ RowKit.Hid (Below W1.heap.size W1 wr)) (fun x _ => r.length - (intOf x).toNat)
          case atStart => exact ⟨0, by omega, rfl, hrefl⟩
          clear hrefl
          obtain ⟨n, hn, rfl, hW⟩ := hrel
          by_cases hlt : n < r.length
          · obtain ⟨ba, oa, cc, a4, c4, ea, hba, p0, p1, p2, hr3⟩ := (HAR.out.later hW.out).at n hlt
            have hsh := HSH.out r[n] (List.getElem_mem hlt)
            have hql := HSL.out.2 r[n] (List.getElem_mem hlt)
            cases ea
            obtain ⟨p, is, hq⟩ : ∃ p is, r[n] = (p, is) := ⟨_, _, rfl⟩
            rw [hq] at p0 p1 p2 hr3 hql hsh
            simp only at p0 p1 p2 hr3 hql hsh
            obtain ⟨hs1, hs2, hs3⟩ := hsh
            have HS2 := Lib.hid hs2
            have HS3 := Lib.hid hs3
            have HR3 := Lib.hid hr3
            have HQ := Lib.hid hq
            have hnn : (n : Int) < (r.length : Int) := by omega
            clear hs2 hs3 hr3 hq
            rename World => W2
            go_wp2_with fail
            go_loopw [19, 20, 21] (fun x y z wr => ∃ (m : Nat) (b1 b2 : Bool), m ≤ is.length ∧ x = .bool b1 ∧ y = .bool b2 ∧ z = .int .i64 m ∧ wr = W2 ∧ RowKit.Hid (decide ((i : Int) ∈ is.take m) = b1 ∧ decide ((k : Int) ∈ is.take m) = b2)) (fun _ _ x _ => is.length - (intOf x).toNat)
            case atStart => exact ⟨0, false, false, by omega, rfl, rfl, rfl, rfl, Lib.hid ⟨by simp, by simp⟩⟩
            obtain ⟨m, b1, b2, hm, rfl, rfl, rfl, rfl, hE⟩ := hrel
            by_cases hmt : m < is.length
            · obtain ⟨b3, o3, c3', e3, _, hc3⟩ := HR3.out.at m (by simpa using hmt)
              rw [List.getElem_map] at hc3
              rw [List.length_map] at e3
              cases e3
              have q0 : wr.cell? ⟨b3, o3 + m, none⟩ = some (.int .i64 is[m]) := by have := hc3 0 _ rfl; rwa [Nat.mul_one] at this
              have hmm : (m : Int) < (is.length : Int) := by omega
              have HN1 := Lib.hid (mem_take_next hmt (i : Int))
              have HN2 := Lib.hid (mem_take_next hmt (k : Int))
              rw [hE.out.1] at HN1
              rw [hE.out.2] at HN2
              clear hc3 hE
              cases b1 <;> cases b2
              all_goals
                go_wp2_with fail
                go_roundw
                case rel => exact ⟨m + 1, _, _, by omega, rfl, rfl, by go_num, trivial, Lib.hid ⟨HN1.out, HN2.out⟩⟩
                case measure => simp [intOf]; omega
            · have hme : m = is.length := by omega
              subst hme
              have hE1 := hE.out.1
              have hE2 := hE.out.2
              rw [List.take_length] at hE1 hE2
              rw [HS2.out] at hE1
              rw [HS3.out] at hE2
              have hmm : ¬ ((is.length : Int) < (is.length : Int)) := by omega
              have hm2 : ¬ ((is.length : Int) < 2) := by omega
              have C1 := Lib.hid (in_any la (.slice ga la.length ca) p wr (HDA.out.later hW.out) (by omega))
              have C2 := Lib.hid (fun W (hb : Below wr.heap.size wr W) => in_any lb (.slice gb lb.length cb) p W ((HDB.out.later hW.out).later hb) (by omega))
              rw [hE1] at C1
              rw [hE2] at C2
              have HAW := Lib.hid (HAR.out.later hW.out)
              clear hE1 hE2 hE HS2 HS3
              go_wp2_with fail
              refine (C1.out).mono ?_
              rintro e w3 ⟨rfl, hb3⟩
              have HB3 := Lib.hid (below_step hW.out hb3)
              obtain ⟨ba', oa', cc', a4', c4', ea', hba', p0', p1', p2', hr3'⟩ := (HAW.out.later hb3).at n hlt
              rw [HQ.out] at p0' p1'
              simp only at p0' p1'
              cases ea'
              have C2' := Lib.hid (C2.out w3 hb3)
              have HB3s := Lib.hid hb3
              clear hr3' p0 p1 p2 hb3 C2 p2'
              cases b1
              all_goals
                cases b2
                all_goals
                  go_wp2_with fail
                  refine (C2'.out).mono ?_
                  rintro e w4 ⟨rfl, hb4⟩
                  have HB4 := Lib.hid (below_step HB3.out hb4)
                  clear hb4
                  go_wp2
                  go_roundw
                  case rel => exact ⟨n + 1, by omega, by go_num, HB4⟩
                  case measure => simp [intOf]; omega
          · have hne : n = r.length := by omega
            have hnn : ¬ ((n : Int) < (r.length : Int)) := by omega
            have HBR2 := Lib.hid (below_step HBR.out hW.out)
            have HAR2 := Lib.hid (HAR.out.later hW.out)
            have HDA2 := Lib.hid (HDA.out.later hW.out)
            have HDB2 := Lib.hid (HDB.out.later hW.out)
            have hrefl : RowKit.Hid (Below wr.heap.size wr wr) := Lib.hid (Below.refl _ _)
            clear hne HAR HDA HDB HSH hW HBR
            rename World => W2
            go_wp2_with fail
            go_loopw [22] (fun x wr => ∃ n : Nat, n ≤ la.length ∧ x = .int .i64 n ∧ RowKit.Hid (Below W2.heap.size W2 wr)) (fun x _ => la.length - (intOf x).toNat)
            case atStart => exact ⟨0, by omega, rfl, hrefl⟩
            clear hrefl
            obtain ⟨q, hq, rfl, hW⟩ := hrel
            by_cases hgo : q < la.length ∧ i ≠ k
            · obtain ⟨hlt, hik⟩ := hgo
              have hqn : (q : Int) < (la.length : Int) := by omega
              have hikn : ((i : Int) == (k : Int)) = false := by rw [beq_eq_false_iff_ne]; omega
              obtain ⟨b, o, c', ev', hbl, hc⟩ := (HDA2.out.later hW.out).at q (by simpa using hlt)
              rw [List.getElem_map] at hc
              rw [List.length_map] at ev'
              cases ev'
              obtain ⟨p, hp⟩ : ∃ p, la[q] = p := ⟨_, rfl⟩
              rw [hp] at hc
              have q0 : wr.cell? ⟨b, o + q * 2, none⟩ = some (.int .i64 p.1) := hc 0 _ rfl
              have q1 : wr.cell? ⟨b, o + q * 2 + 1, none⟩ = some (.int .i64 p.2) := hc 1 _ rfl
              have HPA := Lib.hid (show p ∈ la by rw [← hp]; exact List.getElem_mem hlt)
              have C1 := Lib.hid (in_any lb (.slice gb lb.length cb) p wr (HDB2.out.later hW.out) (by omega))
              obtain ⟨d, hd⟩ : ∃ d, decide (p ∈ lb) = d := ⟨_, rfl⟩
              have HF2 := Lib.hid (show ((!d) || hasB r p) = true by
                cases d with
                | false => rfl
                | true => exact HFD.out hik p HPA.out (of_decide_eq_true hd))
              rw [hd] at C1
              have HAW := Lib.hid (HAR2.out.later hW.out)
              have HDW := Lib.hid (HDA2.out.later hW.out)
              have HPQ := Lib.hid hp
              clear hc hd hp hik
              go_wp2_with fail
              refine (C1.out).mono ?_
              rintro e w3 ⟨rfl, hb3⟩
              have HB3 := Lib.hid (below_step hW.out hb3)
              have HAW3 := Lib.hid (HAW.out.later hb3)
              have HDW3 := Lib.hid (HDW.out.later hb3)
              have hrefl : RowKit.Hid (Below w3.heap.size w3 w3) := Lib.hid (Below.refl _ _)
              clear HAW HDW hW q0 q1 hb3 C1
              rename World => W3
              go_wp2_with fail
              go_loopw [23, 24] (fun x y wr => ∃ (m : Nat) (b1 : Bool), m ≤ r.length ∧ x = .bool b1 ∧ y = .int .i64 m ∧ RowKit.Hid (((!d) || hasB (r.take m) p) = b1) ∧ RowKit.Hid (Below W3.heap.size W3 wr)) (fun _ x _ => r.length - (intOf x).toNat)
              case atStart => exact ⟨0, !d, by omega, rfl, rfl, Lib.hid (by cases d <;> rfl), hrefl⟩
              clear hrefl
              obtain ⟨m, b1, hm, rfl, rfl, hE, hW⟩ := hrel
              by_cases hmt : m < r.length
              · have hmm : (m : Int) < (r.length : Int) := by omega
                have HNX := Lib.hid (hasB_next hmt p)
                cases b1 with
                | true =>
                  go_wp2_with fail
                  go_quiet (fail)
                  go_wp2
                  go_roundw
                  case rel => exact ⟨m + 1, true, by omega, rfl, by go_num, Lib.hid (by rw [HNX.out, ← Bool.or_assoc, hE.out]; rfl), Lib.hid (below_drewN hW.out _)⟩
                  case measure => simp [intOf]; omega
                | false =>
                  obtain ⟨ba, oa, cc, a4, c4, ea, hba, p0, p1, p2, hr3⟩ := (HAW3.out.later hW.out).at m hmt
                  obtain ⟨b5, o5, c5, e5, hb5, hc5⟩ := (HDW3.out.later hW.out).at q (by simpa using hlt)
                  rw [List.getElem_map, HPQ.out] at hc5
                  rw [List.length_map] at e5
                  cases ea
                  cases e5
                  have q0 : wr.cell? ⟨b, o + q * 2, none⟩ = some (.int .i64 p.1) := hc5 0 _ rfl
                  have q1 : wr.cell? ⟨b, o + q * 2 + 1, none⟩ = some (.int .i64 p.2) := hc5 1 _ rfl
                  obtain ⟨x, hx⟩ : ∃ x, r[m].1 = x := ⟨_, rfl⟩
                  rw [hx] at p0 p1 HNX
                  clear hc5 p2 hr3 hx
                  by_cases he : x = p
                  · have hqq := eqPp (decide_eq_true he)
                    have HX := Lib.hid (decide_eq_true he)
                    clear he
                    go_wp2_with fail
                    go_quiet (fail)
                    go_wp2
                    go_roundw
                    case rel => exact ⟨m + 1, true, by omega, rfl, by go_num, Lib.hid (by rw [HNX.out, ← Bool.or_assoc, hE.out, HX.out]; rfl), Lib.hid (below_drewN hW.out _)⟩
                    case measure => simp [intOf]; omega
                  · have hqq := eqPp (decide_eq_false he)
                    have HX := Lib.hid (decide_eq_false he)
                    clear he
                    go_wp2_with fail
                    go_quiet (fail)
                    go_wp2
                    go_roundw
                    case rel => exact ⟨m + 1, false, by omega, rfl, by go_num, Lib.hid (by rw [HNX.out, ← Bool.or_assoc, hE.out, HX.out]; rfl), Lib.hid (below_drewN hW.out _)⟩
                    case measure => simp [intOf]; omega
              · have hmm : ¬ ((m : Int) < (r.length : Int)) := by omega
                have hme : m = r.length := by omega
                have hE2 := hE.out
                rw [hme, List.take_length, HF2.out] at hE2
                subst hE2
                have HB5 := Lib.hid (below_step HB3.out hW.out)
                clear hme hE
                go_wp2
                go_roundw
                case rel => exact ⟨q + 1, by omega, by go_num, HB5⟩
                case measure => simp [intOf]; omega
            · have HBE := Lib.hid (below_step HBR2.out hW.out)
              by_cases hlt : q < la.length
              · have hqn : (q : Int) < (la.length : Int) := by omega
                have hik : i = k := by
                  by_cases h : i = k
                  · exact h
                  · exact absurd ⟨hlt, h⟩ hgo
                have hikn : ((i : Int) == (k : Int)) = true := by rw [beq_iff_eq]; omega
                clear hgo hik
                go_wp2_with fail
                refine (shown_any wr (HT.out.below HBE.out)).mono ?_
                rintro e w5 ⟨rfl, hb5⟩
                have HB5 := Lib.hid (below_step HBE.out hb5)
                clear hb5
                go_wp2
                go_ret
                exact ⟨rfl, HB5.out⟩
              · have hqn : ¬ ((q : Int) < (la.length : Int)) := by omega
                clear hgo
                go_wp2_with fail
                refine (shown_any wr (HT.out.below HBE.out)).mono ?_
                rintro e w5 ⟨rfl, hb5⟩
                have HB5 := Lib.hid (below_step HBE.out hb5)
                clear hb5
                go_wp2
                go_ret
                exact ⟨rfl, HB5.out⟩
    · have b1 : (er == 0) = false := beq_eq_false_iff_ne.2 her
      have HER := Lib.hid her
      clear her
      go_wp2_with fail
      refine (shown_any w2 (HT.out.below HB2.out)).mono ?_
      rintro e w3 ⟨rfl, hb3⟩
      have HB3 := Lib.hid (below_step HB2.out hb3)
      clear hb3
      go_wp2
      go_ret
      exact ⟨rfl, HB3.out⟩
end Go.Proofs.YtkddeliifadcoaaDoor
