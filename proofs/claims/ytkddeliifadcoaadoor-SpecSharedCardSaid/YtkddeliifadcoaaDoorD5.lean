/-
  CONTRACTS: the reference's part.
-/
import Derived.Test.YtkddeliifadcoaaDoorD2
namespace Go.Proofs.YtkddeliifadcoaaDoor
open Go.RowKit
/-- The world of a call of part: the blocks of its arguments. -/
structure PtSt (w : World) (v1 v2 v3 v4 : Value) (cx cp : Array Value) (W : World) : Prop where
  spec : Blk W w.heap.size 27 #[v1, v2, v3, v4]
  st : Blk W (w.heap.size + 1) 61 cx
  pt : Blk W (w.heap.size + 2) 75 cp
  low : Below w.heap.size w W
theorem PtSt.below {w W W' : World} {v1 v2 v3 v4 : Value} {cx cp : Array Value} (h : PtSt w v1 v2 v3 v4 cx cp W) (hb : Below W.heap.size W W') : PtSt w v1 v2 v3 v4 cx cp W' := ⟨h.spec.below hb, h.st.below hb, h.pt.below hb, below_step h.low hb⟩
theorem PtSt.drawn {w W : World} {v1 v2 v3 v4 : Value} {cx cp : Array Value} (h : PtSt w v1 v2 v3 v4 cx cp W) (n : Nat) : PtSt w v1 v2 v3 v4 cx cp (W.drewN n) := h.below (below_drewN (Below.refl _ _) _)
theorem PtSt.new (w : World) (v1 v2 v3 v4 : Value) (cx cp : Array Value) : PtSt w v1 v2 v3 v4 cx cp (((w.alloc (.cells #[v1, v2, v3, v4] 27)).alloc (.cells cx 61)).alloc (.cells cp 75)) where
  spec := ((Blk.new w _ _).alloc _).alloc _
  st := by
    have := (Blk.new (w.alloc (.cells #[v1, v2, v3, v4] 27)) 61 cx).alloc (.cells cp 75)
    rwa [World.size_alloc] at this
  pt := by
    have := Blk.new ((w.alloc (.cells #[v1, v2, v3, v4] 27)).alloc (.cells cx 61)) 75 cp
    simp only [World.size_alloc] at this
    exact this
  low := (((Below.refl _ w).alloc (Nat.le_refl _) _).alloc (by simp) _).alloc (by simp; omega) _
theorem held_step9 {W0 W w' : World} {a0 : Addr} {u0 : Value} {a1 : Addr} {u1 : Value} {a2 : Addr} {u2 : Value} {a3 : Addr} {u3 : Value} {a4 : Addr} {u4 : Value} {a5 : Addr} {u5 : Value} {a6 : Addr} {u6 : Value} {a7 : Addr} {u7 : Value} {a8 : Addr} {u8 : Value} (h : Below W0.heap.size W0 W ∧ W.cell? a0 = some u0 ∧ W.cell? a1 = some u1 ∧ W.cell? a2 = some u2 ∧ W.cell? a3 = some u3 ∧ W.cell? a4 = some u4 ∧ W.cell? a5 = some u5 ∧ W.cell? a6 = some u6 ∧ W.cell? a7 = some u7 ∧ W.cell? a8 = some u8) (hb : Below W.heap.size W w') : Below W0.heap.size W0 w' ∧ w'.cell? a0 = some u0 ∧ w'.cell? a1 = some u1 ∧ w'.cell? a2 = some u2 ∧ w'.cell? a3 = some u3 ∧ w'.cell? a4 = some u4 ∧ w'.cell? a5 = some u5 ∧ w'.cell? a6 = some u6 ∧ w'.cell? a7 = some u7 ∧ w'.cell? a8 = some u8 := by
  obtain ⟨h0, g0, g1, g2, g3, g4, g5, g6, g7, g8⟩ := h
  exact ⟨below_step h0 hb, (hb.cell (cell_size g0)).trans g0, (hb.cell (cell_size g1)).trans g1, (hb.cell (cell_size g2)).trans g2, (hb.cell (cell_size g3)).trans g3, (hb.cell (cell_size g4)).trans g4, (hb.cell (cell_size g5)).trans g5, (hb.cell (cell_size g6)).trans g6, (hb.cell (cell_size g7)).trans g7, (hb.cell (cell_size g8)).trans g8⟩
/-- The verdict on a part whose rank is there. -/
def ptV (d : Dv) (r : Rk) (ps pl ph : Int) : Int := if d.lo ≤ pl ∧ ph ≤ d.hi ∧ pl ≤ ph ∧ -96 ≤ ps ∧ ps ≤ 96 then (if r.low ≤ pl + ps ∧ ph + ps < r.low + r.cnt then 0 else 4) else 7
set_option maxRecDepth 100000 in
set_option maxHeartbeats 6400000 in
theorem rpart_in (v1 v2 v3 v4 : Value) (S : Sp) (ok : SpOk S) (xn : ByteArray) (xnu xde : Int) (i q : Nat) (v : Value) (ps pl ph : Int) (d : Dv) (r : Rk) (f : Nat → Value) (w : World) (hsp : SpRd w v1 v2 v3 v4 f S)
    (hil : i < S.ds.length) (hql : q < S.rs.length) (hd : S.ds[i] = d) (hr : S.rs[q] = r) (hdd : dvE d = 0) (hrr : rkE r = 0) :
    Calls Tryd.prog 33 #[.agg #[v1, v2, v3, v4], .agg #[.string xn, .int .i64 i, .int .i64 xnu, .int .i64 xde, v], .agg #[.int .i64 q, .int .i64 ps, .int .i64 pl, .int .i64 ph]] w fun e w' => e = .returned (.int .i64 (ptV d r ps pl ph)) ∧ Below w.heap.size w w' := by
  have hl := ok.r
  have hld := ok.d
  have HSP := Lib.hid hsp
  have hst0 := PtSt.new w v1 v2 v3 v4 #[.string xn, .int .i64 i, .int .i64 xnu, .int .i64 xde, v] #[.int .i64 q, .int .i64 ps, .int .i64 pl, .int .i64 ph]
  have HS0 := Lib.hid hst0
  clear hst0
  have C1 := Lib.hid (fun W => rindex_is (q : Int) S.rs.length true (decide_eq_true ⟨by omega, by omega⟩) W)
  obtain ⟨b, o, c, ev, hlt, e0, e1, e2⟩ := (hsp.later HS0.out.low).dAt i hil
  rw [hd] at e0 e1 e2
  obtain ⟨a2, c2, ev2⟩ := hsp.forms.2.1
  subst ev
  subst ev2
  have hb1 : 0 ≤ d.lo ∧ d.lo ≤ 127 ∧ d.hi ≤ 127 := by unfold dvE at hdd; split at hdd <;> omega
  have hb2 : 0 ≤ r.low ∧ r.low + r.cnt ≤ 128 ∧ 1 ≤ r.cnt := by
    unfold rkE at hrr
    split at hrr
    · split at hrr
      · omega
      · omega
    · omega
  clear hdd hrr
  have CH := Lib.hid (fun n W (h : -1000 ≤ n ∧ n ≤ 1000) => rhas_any r.name r.kind r.num r.den r.low r.cnt n W (by omega))
  by_cases hw : d.lo ≤ pl ∧ ph ≤ d.hi ∧ pl ≤ ph ∧ -96 ≤ ps ∧ ps ≤ 96
  · have HV := Lib.hid (show ptV d r ps pl ph = if r.low ≤ pl + ps ∧ ph + ps < r.low + r.cnt then 0 else 4 by unfold ptV; rw [if_pos hw])
    obtain ⟨w1, w2, w3, w4, w5⟩ := hw
    have HR := Lib.hid hr
    clear hr hd
    go_enter Tryd.func33, Tryd.ntmps33
    go_wp2_with (go_at_call 39; with_reducible refine (C1.out _).mono ?_; rintro e w' ⟨rfl, rfl⟩)
    all_goals (try (exfalso; omega))
    go_loopw [8] (fun x wr => ∃ k : Nat, pl + k ≤ ph + 1 ∧ x = .int .i64 (pl + k) ∧ RowKit.Hid (∀ j : Nat, j < k → r.low ≤ pl + j + ps ∧ pl + j + ps < r.low + r.cnt) ∧ RowKit.Hid (PtSt w (.slice (some ⟨b, o, none⟩) S.ds.length c) (.slice a2 S.rs.length c2) v3 v4 #[.string xn, .int .i64 i, .int .i64 xnu, .int .i64 xde, v] #[.int .i64 q, .int .i64 ps, .int .i64 pl, .int .i64 ph] wr)) (fun x _ => (ph + 1 - intOf x).toNat)
    case atStart => exact ⟨0, by omega, by simp, Lib.hid (fun j hj => by omega), Lib.hid (HS0.out.below ((Below.refl _ _).alloc (Nat.le_refl _) _))⟩
    obtain ⟨k, hk, rfl, hE, hS⟩ := hrel
    have t3 := hS.out.pt.cell 3
    by_cases hlt2 : pl + k ≤ ph
    · obtain ⟨s0, s1, s2, s3⟩ := hS.out.spec.four
      obtain ⟨t0, t1, t2, _⟩ := hS.out.pt.four
      obtain ⟨b', o', c', ev', hbl, q0, q1, q2, q3, q4, q5⟩ := (HSP.out.later hS.out.low).rAt q hql
      cases ev'
      rw [HR.out] at q0 q1 q2 q3 q4 q5
      have hq1 : (0 : Int) ≤ (q : Int) := by omega
      have hq2 : (q : Int) < (S.rs.length : Int) := by omega
      have hdr : Below wr.heap.size wr wr.drew := (Below.refl _ _).drew
      have hrg : -1000 ≤ pl + k + ps ∧ pl + k + ps ≤ 1000 := by omega
      have e3 : IntKind.i64.wrap (pl + k + ps) = pl + k + ps := IntWalk.i64_in _ (by omega)
      have CH2 := Lib.hid (fun W => CH.out (pl + k + ps) W hrg)
      clear e0 e1 e2 hlt
      by_cases hin : r.low ≤ pl + k + ps ∧ pl + k + ps < r.low + r.cnt
      · rw [decide_eq_true hin] at CH2
        have HIN := Lib.hid hin
        clear hin
        go_wp2_with fail
        go_region_held3 (fun w' => Below wr.heap.size wr w' ∧ w'.cell? ⟨w.heap.size, 1, none⟩ = some (.slice (some ⟨b', o', none⟩) S.rs.length c2) ∧ w'.cell? ⟨w.heap.size + 2, 0, none⟩ = some (.int .i64 q) ∧ w'.cell? ⟨w.heap.size + 2, 1, none⟩ = some (.int .i64 ps) ∧ w'.cell? ⟨b', o' + q * 6, none⟩ = some (.string r.name) ∧ w'.cell? ⟨b', o' + q * 6 + 1, none⟩ = some (.int .i64 r.kind) ∧ w'.cell? ⟨b', o' + q * 6 + 2, none⟩ = some (.int .i64 r.num) ∧ w'.cell? ⟨b', o' + q * 6 + 3, none⟩ = some (.int .i64 r.den) ∧ w'.cell? ⟨b', o' + q * 6 + 4, none⟩ = some (.int .i64 r.low) ∧ w'.cell? ⟨b', o' + q * 6 + 5, none⟩ = some (.int .i64 r.cnt)) (first | exact ⟨hdr, s1, t0, t1, q0, q1, q2, q3, q4, q5⟩ | assumption) (first | (go_at_call 52; (try rw [e3]); with_reducible refine (CH2.out _).mono ?_; rintro e w2 ⟨rfl, hb2⟩; have hn := held_step9 (by assumption) hb2; clear hb2))
        go_wp2
        go_roundw
        case rel => exact ⟨k + 1, by omega, by go_num, Lib.hid (fun j hj => by rcases Nat.lt_succ_iff_lt_or_eq.1 hj with h' | h'; exact hE.out j h'; subst h'; exact HIN.out), Lib.hid (hS.out.below hn.1)⟩
        case measure => simp [intOf]; omega
      · rw [decide_eq_false hin] at CH2
        have HV4 := Lib.hid (show ptV d r ps pl ph = 4 by rw [HV.out, if_neg (by omega)])
        clear hin
        go_wp2_with fail
        go_region_held3 (fun w' => Below wr.heap.size wr w' ∧ w'.cell? ⟨w.heap.size, 1, none⟩ = some (.slice (some ⟨b', o', none⟩) S.rs.length c2) ∧ w'.cell? ⟨w.heap.size + 2, 0, none⟩ = some (.int .i64 q) ∧ w'.cell? ⟨w.heap.size + 2, 1, none⟩ = some (.int .i64 ps) ∧ w'.cell? ⟨b', o' + q * 6, none⟩ = some (.string r.name) ∧ w'.cell? ⟨b', o' + q * 6 + 1, none⟩ = some (.int .i64 r.kind) ∧ w'.cell? ⟨b', o' + q * 6 + 2, none⟩ = some (.int .i64 r.num) ∧ w'.cell? ⟨b', o' + q * 6 + 3, none⟩ = some (.int .i64 r.den) ∧ w'.cell? ⟨b', o' + q * 6 + 4, none⟩ = some (.int .i64 r.low) ∧ w'.cell? ⟨b', o' + q * 6 + 5, none⟩ = some (.int .i64 r.cnt)) (first | exact ⟨hdr, s1, t0, t1, q0, q1, q2, q3, q4, q5⟩ | assumption) (first | (go_at_call 52; (try rw [e3]); with_reducible refine (CH2.out _).mono ?_; rintro e w2 ⟨rfl, hb2⟩; have hn := held_step9 (by assumption) hb2; clear hb2))
        go_wp2
        go_ret
        exact ⟨by rw [HV4.out]; rfl, (hS.out.below hn.1).low⟩
    · have hke : pl + k = ph + 1 := by omega
      have HV0 := Lib.hid (show ptV d r ps pl ph = 0 by
        rw [HV.out, if_pos]
        have h0 := hE.out 0 (by omega)
        have h1 := hE.out (k - 1) (by omega)
        omega)
      have HL := Lib.hid hS.out.low
      go_wp2
      go_ret
      exact ⟨by rw [HV0.out]; rfl, HL.out⟩
  · have HV := Lib.hid (show ptV d r ps pl ph = 7 by unfold ptV; rw [if_neg hw])
    go_enter Tryd.func33, Tryd.ntmps33
    go_wp2_with (go_at_call 39; with_reducible refine (C1.out _).mono ?_; rintro e w' ⟨rfl, rfl⟩)
    all_goals first
      | (exfalso; omega)
      | (go_ret; exact ⟨by rw [HV.out]; rfl, HS0.out.low.alloc (by simp; omega) _⟩)
theorem rpart_any (v1 v2 v3 v4 : Value) (S : Sp) (ok : SpOk S) (x : St) (v : Value) (p : Pt) (f : Nat → Value) (w : World) (hsp : SpRd w v1 v2 v3 v4 f S)
    (hd1 : 0 ≤ x.div) (hd2 : x.div < S.ds.length) (hdv : ∀ d ∈ S.ds, dvE d = 0) (hrv : ∀ r ∈ S.rs, rkE r = 0) :
    Calls Tryd.prog 33 #[.agg #[v1, v2, v3, v4], .agg #[.string x.name, .int .i64 x.div, .int .i64 x.num, .int .i64 x.den, v], .agg #[.int .i64 p.rank, .int .i64 p.shift, .int .i64 p.lo, .int .i64 p.hi]] w fun e w' => e = .returned (.int .i64 (ptE S x p)) ∧ Below w.heap.size w w' := by
  obtain ⟨i, hi⟩ := Int.eq_ofNat_of_zero_le hd1
  have hil : i < S.ds.length := by omega
  have hti : x.div.toNat = i := by omega
  by_cases h : 0 ≤ p.rank ∧ p.rank < (S.rs.length : Int)
  · have HP := ptE_is (S := S) (x := x) (p := p) (by omega) h.1 h.2
    obtain ⟨q, hq⟩ := Int.eq_ofNat_of_zero_le h.1
    have hql : q < S.rs.length := by omega
    have htq : p.rank.toNat = q := by omega
    simp only [hti, htq] at HP
    have HP2 : ptE S x p = ptV S.ds[i] S.rs[q] p.shift p.lo p.hi := HP
    rw [HP2, hi, hq]
    exact rpart_in v1 v2 v3 v4 S ok x.name x.num x.den i q v p.shift p.lo p.hi S.ds[i] S.rs[q] f w hsp hil hql rfl rfl (hdv _ (List.getElem_mem hil)) (hrv _ (List.getElem_mem hql))
  · rw [ptE_none h]
    have hst0 := PtSt.new w v1 v2 v3 v4 #[.string x.name, .int .i64 x.div, .int .i64 x.num, .int .i64 x.den, v] #[.int .i64 p.rank, .int .i64 p.shift, .int .i64 p.lo, .int .i64 p.hi]
    have HS0 := Lib.hid hst0
    obtain ⟨a2, c2, ev2⟩ := hsp.forms.2.1
    clear hst0
    subst ev2
    have C1 := Lib.hid (fun W => rindex_is p.rank S.rs.length false (decide_eq_false h) W)
    clear h hi
    go_enter Tryd.func33, Tryd.ntmps33
    go_wp2_with (go_at_call 39; with_reducible refine (C1.out _).mono ?_; rintro e w' ⟨rfl, rfl⟩)
    go_ret
    exact ⟨rfl, HS0.out.low⟩
end Go.Proofs.YtkddeliifadcoaaDoor
