/-
  CONTRACTS: the reference's Shared.
-/
import Derived.Test.YtkddeliifadcoaaDoorG1
import Derived.Deep.RegionHeld3
namespace Go.Proofs.YtkddeliifadcoaaDoor
open Go.RowKit
/-- How Shared ends. -/
def ShEnds (r : List (Pp × List Int) × Int) (w : World) (e : Ending) (w' : World) : Prop := ∃ (v : Value) (done : List Pp) (f : Pp → List Int), e = .returned (.tuple #[v, .int .i64 r.2]) ∧ r.1 = done.map (fun p => (p, f p)) ∧ ShOut w' w.heap.size v done f ∧ Below w.heap.size w w'
theorem shEnds_none {w w' : World} {k : Int} {r : List (Pp × List Int) × Int} {v : Value} (hv : v = .tuple #[.slice none 0 0, .int .i64 k]) (h : r = ([], k)) (hb : Below w.heap.size w w') : ShEnds r w (.returned v) w' :=
  ⟨_, [], fun _ => [], by rw [hv, h], by rw [h]; rfl, ShOut.none _ _ _, hb⟩
theorem shEnds_some {w w' : World} {k : Int} {r : List (Pp × List Int) × Int} {u v : Value} {done : List Pp} {f : Pp → List Int} (hv : v = .tuple #[u, .int .i64 k]) (h : r = (done.map (fun p => (p, f p)), k)) (ho : ShOut w' w.heap.size u done f) (hb : Below w.heap.size w w') : ShEnds r w (.returned v) w' :=
  ⟨u, done, f, by rw [hv, h], by rw [h], ho, hb⟩
theorem ShOut.base {W : World} {base base' : Nat} {v : Value} {done : List Pp} {f : Pp → List Int} (h : ShOut W base v done f) (hb : base' ≤ base) : ShOut W base' v done f := by
  obtain ⟨g, h1, h2⟩ := h
  exact ⟨g, row_base h1 hb, fun p hp => row_base (h2 p hp) hb⟩
def longB (S : Sp) (p : Pp) : Bool := decide (1 < (ub S.ss p S.ss.length).length)
set_option maxRecDepth 100000 in
set_option maxHeartbeats 3200000 in
theorem rshared_bad (v1 v2 v3 v4 : Value) (S : Sp) (ok : SpOk S) (w : World) (f : Nat → Value) (hsp : SpRd w v1 v2 v3 v4 f S) (hz : (checkP S).2 ≠ 0) :
    Calls Tryd.prog 16 #[.agg #[v1, v2, v3, v4]] w (ShEnds (sharedP S) w) := by
  have hb0 : Below w.heap.size w (w.alloc (.cells #[v1, v2, v3, v4] 27)) := (Below.refl _ w).alloc (Nat.le_refl _) _
  have HC := Lib.hid (rcheck_any v1 v2 v3 v4 S ok _ f (hsp.later hb0))
  have HP := Lib.hid (show sharedP S = ([], (checkP S).2) by unfold sharedP; rw [if_neg hz])
  obtain ⟨er, her⟩ : ∃ er, er = (checkP S).2 := ⟨_, rfl⟩
  obtain ⟨fl, hfl⟩ : ∃ fl, fl = (checkP S).1 := ⟨_, rfl⟩
  have hcv : ckV (checkP S) = .tuple #[.agg #[.int .i64 fl.1, .int .i64 fl.2.1, .int .i64 fl.2.2], .int .i64 er] := by unfold ckV; rw [her, hfl]
  rw [hcv] at HC
  rw [← her] at HP hz
  have b1 : (er == 0) = false := beq_eq_false_iff_ne.2 hz
  clear hcv her hfl hz ok hsp
  go_enter Tryd.func16, Tryd.ntmps16
  go_wp2_with fail
  refine (HC.out).mono ?_
  rintro e w1 ⟨rfl, hb1⟩
  have hb := below_step hb0 hb1
  go_wp2
  go_ret2
  exact shEnds_none rfl HP.out (hb.alloc hb.size _)
set_option maxRecDepth 100000 in
set_option maxHeartbeats 6400000 in
theorem rshared_good (v1 v2 v3 v4 : Value) (S : Sp) (ok : SpOk S) (w : World) (f : Nat → Value) (hsp : SpRd w v1 v2 v3 v4 f S) (hz : (checkP S).2 = 0) :
    Calls Tryd.prog 16 #[.agg #[v1, v2, v3, v4]] w (ShEnds (sharedP S) w) := by
  have hb0 : Below w.heap.size w (w.alloc (.cells #[v1, v2, v3, v4] 27)) := (Below.refl _ w).alloc (Nat.le_refl _) _
  have k0 : Blk (w.alloc (.cells #[v1, v2, v3, v4] 27)) w.heap.size 27 #[v1, v2, v3, v4] := Blk.new w _ _
  have HC := Lib.hid (rcheck_any v1 v2 v3 v4 S ok _ f (hsp.later hb0))
  have HSP := Lib.hid hsp
  have HG := Lib.hid (spGood hz)
  have HP := Lib.hid (show sharedP S = (shareP S, 0) by unfold sharedP; rw [if_pos hz])
  obtain ⟨_, _, ⟨a3, c3, ev3⟩, _⟩ := hsp.forms
  subst ev3
  obtain ⟨fl, hfl⟩ : ∃ fl, fl = (checkP S).1 := ⟨_, rfl⟩
  have hcv : ckV (checkP S) = .tuple #[.agg #[.int .i64 fl.1, .int .i64 fl.2.1, .int .i64 fl.2.2], .int .i64 0] := by unfold ckV; rw [hz, hfl]
  rw [hcv] at HC
  have hss := HG.out.ss
  clear hcv hfl hz ok hsp
  go_enter Tryd.func16, Tryd.ntmps16
  go_wp2_with fail
  refine (HC.out).mono ?_
  rintro e w1 ⟨rfl, hb1⟩
  have k1 := k0.below hb1
  have hb := below_step hb0 hb1
  have hbA : Below w.heap.size w (w1.alloc (.cells #[.int .i64 fl.1, .int .i64 fl.2.1, .int .i64 fl.2.2] 31)) := hb.alloc hb.size _
  have k2 := k1.alloc (.cells #[.int .i64 fl.1, .int .i64 fl.2.1, .int .i64 fl.2.2] 31)
  have HA := Lib.hid (rall_any _ _ _ _ S _ f (HSP.out.later hbA) HG.out.rs HG.out.r)
  obtain ⟨s0, s1, s2, s3⟩ := k2.four
  go_wp2_with fail
  refine (HA.out).mono ?_
  rintro e W4 ⟨va, rfl, hal, hb4⟩
  have HK4 := Lib.hid (k2.below hb4)
  have har := ARd.of_pps hal
  have hlen : (allFrom 0 S.rs).length ≤ 97 * 40 := by have := allFrom_len HG.out.r 0; have := HG.out.rs; omega
  obtain ⟨l, hl⟩ : ∃ l, l = allFrom 0 S.rs := ⟨_, rfl⟩
  rw [← hl] at har hlen
  obtain ⟨aa, ca, eva⟩ := har.form
  rw [List.length_map] at eva
  subst eva
  have HAR := Lib.hid har
  have HB4 := Lib.hid (below_step hbA hb4)
  have HL := Lib.hid hl
  have hst : RowKit.Hid (ShOut W4 W4.heap.size (.slice none 0 0) ((l.take 0).filter (longB S)) (fun p => ub S.ss p S.ss.length)) := Lib.hid (ShOut.none _ _ _)
  have hrefl : RowKit.Hid (Below W4.heap.size W4 W4) := Lib.hid (Below.refl _ _)
  have HPR := Lib.hid (fun x (hx : x ∈ S.ss) y (hy : y ∈ x.parts) => HG.out.part hx hy)
  have HND := Lib.hid (show l.Pairwise ppLt by rw [hl]; exact asc_allFrom _ _)
  have HRG : RowKit.Hid (∀ i (h : i < l.length), -1000 ≤ l[i].2 ∧ l[i].2 ≤ 1000) := Lib.hid (fun i h => by
    have hm : l[i] ∈ allFrom 0 S.rs := by rw [← hl]; exact List.getElem_mem h
    obtain ⟨k, hk, h1, h2, h3⟩ := mem_allFrom.1 hm
    have hr := rk_ok (HG.out.r _ (List.getElem_mem hk))
    omega)
  obtain ⟨j0, hj0, jz0, jz1, jz2⟩ := info_parts ints_info
  obtain ⟨i0, hi0, hz0, hz1, hz2⟩ := info_parts sh_info
  clear hl har hal hb4 s0 s1 s2 s3 HA HC k0 k1 k2 hb hb0 hb1 hbA
  go_wp2
  go_loopw [7, 8] (fun v x wr => ∃ i : Nat, i ≤ l.length ∧ x = .int .i64 i ∧ RowKit.Hid (ShOut wr W4.heap.size v ((l.take i).filter (longB S)) (fun p => ub S.ss p S.ss.length)) ∧ RowKit.Hid (Below W4.heap.size W4 wr)) (fun _ x _ => l.length - (intOf x).toNat)
  case atStart => exact ⟨0, by omega, rfl, hst, hrefl⟩
  clear hst hrefl
  obtain ⟨i, hi, rfl, hout, hW⟩ := hrel
  by_cases hlt : i < l.length
  · have hki : (i : Int) < (l.length : Int) := by omega
    obtain ⟨Wr, hWr⟩ : ∃ Wr, Wr = wr := ⟨_, rfl⟩
    have hst2 : RowKit.Hid (wr.ownsRow Wr.heap.size 3 1 (.slice none 0 0) (ub S.ss l[i] 0).length (iCs (ub S.ss l[i] 0))) := Lib.hid (World.ownsRow_nil _ _ _ _)
    have hrefl2 : RowKit.Hid (Below Wr.heap.size Wr wr) := by rw [hWr]; exact Lib.hid (Below.refl _ _)
    have HW0 : RowKit.Hid (Below W4.heap.size W4 Wr) := by rw [hWr]; exact hW
    have HO0 : RowKit.Hid (ShOut Wr W4.heap.size u7 ((l.take i).filter (longB S)) (fun p => ub S.ss p S.ss.length)) := by rw [hWr]; exact hout
    clear hWr hW hout
    go_wp2
    go_loopw [9, 10] (fun v x wi => ∃ m : Nat, m ≤ S.ss.length ∧ x = .int .i64 m ∧ RowKit.Hid (wi.ownsRow Wr.heap.size 3 1 v (ub S.ss l[i] m).length (iCs (ub S.ss l[i] m))) ∧ RowKit.Hid (Below Wr.heap.size Wr wi)) (fun _ x _ => S.ss.length - (intOf x).toNat)
    case atStart => exact ⟨0, by omega, rfl, hst2, hrefl2⟩
    clear hst2 hrefl2
    obtain ⟨m, hm, rfl, hrow, hW⟩ := hrel
    have HW4 := Lib.hid (below_step HW0.out hW.out)
    by_cases hmt : m < S.ss.length
    · have hsp := HSP.out.later (below_step HB4.out HW4.out)
      obtain ⟨b, o, c', ev', hbl', e3, e4, e5, e6, e7⟩ := hsp.sAt m hmt
      cases ev'
      obtain ⟨s0, s1, s2, s3⟩ := (HK4.out.below HW4.out).four
      obtain ⟨ba, oa, ca', eva, hbla, hca⟩ := (HAR.out.later HW4.out).at i (by simpa using hlt)
      rw [List.getElem_map] at hca
      rw [List.length_map] at eva
      cases eva
      have p0 : wr.cell? ⟨ba, oa + i * 2, none⟩ = some (.int .i64 l[i].1) := hca 0 _ rfl
      have p1 : wr.cell? ⟨ba, oa + i * 2 + 1, none⟩ = some (.int .i64 l[i].2) := hca 1 _ rfl
      have hkm : (m : Int) < (S.ss.length : Int) := by omega
      have hxm := List.getElem_mem hmt
      have hpl := (HG.out.s _ hxm).2.2.2
      have HU := Lib.hid (fun W (hW2 : Below wr.heap.size wr W) => ruses_any v1 v2 (.slice (some ⟨b, o, none⟩) S.ss.length c3) v4 S.ss[m] (f m) l[i] W ((hsp.later hW2).p m hmt) (by omega) (fun y hy => by obtain ⟨_, _, _, h1, h2, _⟩ := HPR.out _ hxm y hy; exact ⟨h1, h2⟩) (HRG.out i hlt))
      have hdr : Below wr.heap.size wr wr.drew := (Below.refl _ _).drew
      have hlen2 := ub_len (ss := S.ss) (p := l[i]) (k := m)
      clear hsp hca hxm
      cases hub : usesB S.ss[m] l[i] with
      | true =>
        have HUB := Lib.hid (show ub S.ss l[i] (m + 1) = ub S.ss l[i] m ++ [(m : Int)] by rw [ub, usesAt_is hmt, hub, if_pos rfl])
        rw [hub] at HU
        clear hub
        go_wp2_with fail
        go_region_held3 (fun w' => Below wr.heap.size wr w' ∧ w'.cell? ⟨w.heap.size, 0, none⟩ = some (v1) ∧ w'.cell? ⟨w.heap.size, 1, none⟩ = some (v2) ∧ w'.cell? ⟨w.heap.size, 2, none⟩ = some (.slice (some ⟨b, o, none⟩) S.ss.length c3) ∧ w'.cell? ⟨w.heap.size, 3, none⟩ = some (v4) ∧ w'.cell? ⟨b, o + m * 5, none⟩ = some (.string S.ss[m].name) ∧ w'.cell? ⟨b, o + m * 5 + 1, none⟩ = some (.int .i64 S.ss[m].div) ∧ w'.cell? ⟨b, o + m * 5 + 2, none⟩ = some (.int .i64 S.ss[m].num) ∧ w'.cell? ⟨b, o + m * 5 + 3, none⟩ = some (.int .i64 S.ss[m].den) ∧ w'.cell? ⟨b, o + m * 5 + 4, none⟩ = some (f m) ∧ w'.cell? ⟨ba, oa + i * 2, none⟩ = some (.int .i64 l[i].1) ∧ w'.cell? ⟨ba, oa + i * 2 + 1, none⟩ = some (.int .i64 l[i].2)) (first | exact ⟨hdr, s0, s1, s2, s3, e3, e4, e5, e6, e7, p0, p1⟩ | assumption) (first | (go_at_call 44; refine (HU.out _ (by first | exact And.left (by assumption) | exact hdr)).mono ?_; rintro e w2 ⟨rfl, hb2⟩; have hn := hold11 (by assumption) hb2; clear hb2))
        have hn1 := hn.1
        have hrow2 := row_later hrow.out hn1
        have hB2 := below_step hW.out hn1
        have hsz := hB2.size
        clear s0 s1 s2 s3 e3 e4 e5 e6 e7 p0 p1 hdr HU hn
        go_wp2_with (at_builtin; refine wpList_append_lies _ rfl _ _ 47 rfl Wr.heap.size 3 j0 _ 1 8 Tryd.underlying47 hj0 jz0 jz1 jz2 rfl (by omega) _ _ _ rfl (hrow2.alloc _) ⟨w2.heap.size, 0, none⟩ 1 1 [.int .i64 m] rfl rfl (World.news_of_block (cs := #[.int .i64 m]) (t := 3) (fr := (0, 0)) (heap_alloc_new w2 _)) (by simp [Value.oneCell']) (by omega) (by unfold maxLen; omega) (by omega) (by simp; omega) (w2.heap.size + 1) (by simp) ?_; intro gg cap w3 hown3 hgrow hat3 hlt3)
        have HQ : RowKit.Hid (w3.ownsRow Wr.heap.size 3 1 (.slice (some ⟨gg, 0, none⟩) ((ub S.ss l[i] m).length + 1) cap) (ub S.ss l[i] (m + 1)).length (iCs (ub S.ss l[i] (m + 1)))) := by
          rw [HUB.out, List.length_append, List.length_singleton, show iCs (ub S.ss l[i] m ++ [(m : Int)]) = iCs (ub S.ss l[i] m) ++ [.int .i64 m] by simp [iCs]]
          exact Lib.hid hown3
        have HB := Lib.hid (push_low hB2 hrow2 hgrow)
        refine ⟨⟨m + 1, by omega, by go_num, HQ, HB⟩, by simp [intOf]; omega⟩
      | false =>
        have HUB := Lib.hid (show ub S.ss l[i] (m + 1) = ub S.ss l[i] m by rw [ub, usesAt_is hmt, hub]; simp)
        rw [hub] at HU
        clear hub
        go_wp2_with fail
        go_region_held3 (fun w' => Below wr.heap.size wr w' ∧ w'.cell? ⟨w.heap.size, 0, none⟩ = some (v1) ∧ w'.cell? ⟨w.heap.size, 1, none⟩ = some (v2) ∧ w'.cell? ⟨w.heap.size, 2, none⟩ = some (.slice (some ⟨b, o, none⟩) S.ss.length c3) ∧ w'.cell? ⟨w.heap.size, 3, none⟩ = some (v4) ∧ w'.cell? ⟨b, o + m * 5, none⟩ = some (.string S.ss[m].name) ∧ w'.cell? ⟨b, o + m * 5 + 1, none⟩ = some (.int .i64 S.ss[m].div) ∧ w'.cell? ⟨b, o + m * 5 + 2, none⟩ = some (.int .i64 S.ss[m].num) ∧ w'.cell? ⟨b, o + m * 5 + 3, none⟩ = some (.int .i64 S.ss[m].den) ∧ w'.cell? ⟨b, o + m * 5 + 4, none⟩ = some (f m) ∧ w'.cell? ⟨ba, oa + i * 2, none⟩ = some (.int .i64 l[i].1) ∧ w'.cell? ⟨ba, oa + i * 2 + 1, none⟩ = some (.int .i64 l[i].2)) (first | exact ⟨hdr, s0, s1, s2, s3, e3, e4, e5, e6, e7, p0, p1⟩ | assumption) (first | (go_at_call 44; refine (HU.out _ (by first | exact And.left (by assumption) | exact hdr)).mono ?_; rintro e w2 ⟨rfl, hb2⟩; have hn := hold11 (by assumption) hb2; clear hb2))
        have hn1 := hn.1
        have HB2 := Lib.hid (below_step hW.out hn1)
        have HR2 := row_later hrow.out hn1
        rw [← HUB.out] at HR2
        have HR3 := Lib.hid HR2
        clear s0 s1 s2 s3 e3 e4 e5 e6 e7 p0 p1 hdr HU hn HR2
        go_wp2
        go_roundw
        case rel => exact ⟨m + 1, by omega, by go_num, HR3, HB2⟩
        case measure => simp [intOf]; omega
    · have hme : m = S.ss.length := by omega
      have hkm : ¬ ((m : Int) < (S.ss.length : Int)) := by omega
      have hE := hrow.out
      rw [hme] at hE
      obtain ⟨s0, s1, s2, s3⟩ := (HK4.out.below HW4.out).four
      have hO := HO0.out.later hW.out
      have hul := ub_len (ss := S.ss) (p := l[i]) (k := S.ss.length)
      obtain ⟨q, hq⟩ : ∃ q, q = ub S.ss l[i] S.ss.length := ⟨_, rfl⟩
      rw [← hq] at hE hul
      obtain ⟨av, cv, hav⟩ : ∃ a c, u9 = .slice a q.length c := by
        rcases hE.2 with ⟨e, e0⟩ | ⟨g, cap, cur, e, _⟩
        · exact ⟨none, 0, by rw [e, e0]⟩
        · exact ⟨_, _, e⟩
      subst hav
      have HE := Lib.hid hE
      have HQ := Lib.hid hq
      clear hrow hme hE hq
      by_cases hlong : 1 < q.length
      · have hd : decide ((1 : Int) < (q.length : Int)) = true := by rw [decide_eq_true_iff]; omega
        have HLB := Lib.hid (show longB S l[i] = true by unfold longB; rw [← HQ.out]; exact decide_eq_true hlong)
        obtain ⟨ba, oa, ca', eva, hbla, hca⟩ := (HAR.out.later HW4.out).at i (by simpa using hlt)
        rw [List.getElem_map] at hca
        rw [List.length_map] at eva
        cases eva
        have p0 : wr.cell? ⟨ba, oa + i * 2, none⟩ = some (.int .i64 l[i].1) := hca 0 _ rfl
        have p1 : wr.cell? ⟨ba, oa + i * 2 + 1, none⟩ = some (.int .i64 l[i].2) := hca 1 _ rfl
        obtain ⟨g, ho1, ho2⟩ := hO.ex
        have hlen3 : ((l.take i).filter (longB S)).length ≤ 97 * 40 := by
          have h1 := List.length_filter_le (longB S) (l.take i)
          rw [List.length_take] at h1
          omega
        have hsz4 := HW4.out.size
        clear hca hlong hO
        go_wp2_with (at_builtin; refine wpList_append_lies _ rfl _ _ 42 rfl W4.heap.size 49 i0 _ 3 40 Tryd.underlying42 hi0 hz0 hz1 hz2 rfl (by omega) _ _ _ rfl (ho1.alloc _) ⟨wr.heap.size, 0, none⟩ 1 1 [.int .i64 l[i].1, .int .i64 l[i].2, .slice av q.length cv] rfl rfl (World.news_of_block (cs := #[.int .i64 l[i].1, .int .i64 l[i].2, .slice av q.length cv]) (t := 49) (fr := (0, 0)) (heap_alloc_new wr _)) (by simp [Value.oneCell']) (by omega) (by unfold maxLen; omega) (by omega) (by simp; omega) (wr.heap.size + 1) (by simp) ?_; intro gg cap w3 hown3 hgrow hat3 hlt3)
        have HB := Lib.hid (push_low HW4.out ho1 hgrow)
        have hnd : l[i] ∉ (l.take i).filter (longB S) := fun hm => by
          obtain ⟨j, hj, he⟩ := List.mem_iff_getElem.1 (List.mem_filter.1 hm).1
          rw [List.length_take] at hj
          rw [List.getElem_take] at he
          have := List.pairwise_iff_getElem.1 HND.out j i (by omega) hlt (by omega)
          rw [he] at this
          exact ppLt_irrefl _ this
        have hEb : wr.ownsRow W4.heap.size 3 1 (.slice av q.length cv) (ub S.ss l[i] S.ss.length).length (iCs (ub S.ss l[i] S.ss.length)) := by rw [← HQ.out]; exact row_base HE.out HW0.out.size
        have HO3 := Lib.hid (ShOut.push (p := l[i]) ho1 ho2 hnd hEb hown3 rfl hgrow)
        rw [← filter_take_yes hlt HLB.out] at HO3
        refine ⟨⟨i + 1, by omega, by go_num, HO3, HB⟩, by simp [intOf]; omega⟩
      · have hd : decide ((1 : Int) < (q.length : Int)) = false := by rw [decide_eq_false_iff_not]; omega
        have HLB := Lib.hid (show longB S l[i] = false by unfold longB; rw [← HQ.out]; exact decide_eq_false hlong)
        rw [← filter_take_no hlt HLB.out] at hO
        have HO2 := Lib.hid hO
        clear hlong hO
        go_wp2
        go_roundw
        case rel => exact ⟨i + 1, by omega, by go_num, HO2, HW4⟩
        case measure => simp [intOf]; omega
  · have hke : i = l.length := by omega
    have hki : ¬ ((i : Int) < (l.length : Int)) := by omega
    have hE := hout.out
    rw [hke, List.take_length, HL.out] at hE
    have HO := Lib.hid (hE.base HB4.out.size)
    have HB := Lib.hid (below_step HB4.out hW.out)
    clear hE hout hke
    go_wp2
    go_ret2
    exact shEnds_some (u := u7) rfl HP.out HO.out HB.out
theorem rshared_any (v1 v2 v3 v4 : Value) (S : Sp) (ok : SpOk S) (w : World) (f : Nat → Value) (hsp : SpRd w v1 v2 v3 v4 f S) :
    Calls Tryd.prog 16 #[.agg #[v1, v2, v3, v4]] w (ShEnds (sharedP S) w) := by
  by_cases hz : (checkP S).2 = 0
  · exact rshared_good v1 v2 v3 v4 S ok w f hsp hz
  · exact rshared_bad v1 v2 v3 v4 S ok w f hsp hz
end Go.Proofs.YtkddeliifadcoaaDoor
