/-
  CONTRACTS: Read. CONTRACTS: Read, errors and all.
-/
import Derived.Test.YtppccacfdpkkgaaGreatDoorK10
import Derived.Test.YtppccacfdpkkgaaGreatDoorK18
import Derived.Test.YtppccacfdpkkgaaGreatDoorKE
import Derived.Test.YtppccacfdpkkgaaGreatDoorKB
import Derived.Test.YtppccacfdpkkgaaGreatDoorH
import Derived.Test.YtppccacfdpkkgaaGreatDoorKS
namespace Go.Proofs.YtppccacfdpkkgaaGreatDoor
open Go.RowKit Go.Shelf
attribute [local go_sem] Oper.semAt_some
/-- A function is left with its marks. -/
theorem marks_ret {F : Fence} {n : Nat} {P : Program} {fn : Func} {R : Ending → World → Prop} {a : Act} {B : Nat} {Ds : List Nat} {W : World} {v : Value} (hm : MarksOk B Ds W) (hd : a.defers = marks Ds) (hr : ∀ w, (results fn a.tmps).run P w = .ok v w) (hR : R (.returned v) (cleared W Ds)) : bodyPostM F n P fn R .ret a W := by
  show LeavesInM F n P fn a.tmps R a.defers .returning W
  rw [hd]
  exact leaves_marks Ds W hm ⟨v, hr _, hR⟩
theorem ev_five (l : List Ev) : ∀ r ∈ l.map evC5, r.length = 5 := fun r h => by
  obtain ⟨e, _, rfl⟩ := List.mem_map.1 h
  rfl
theorem ev_ard {W : World} {base : Nat} {v : Value} {l : List Ev} (h : W.ownsRow base 68 5 v l.length (l.map evC5).flatten) : ARd W v 5 (l.map evC5) :=
  ARd.of_row (ev_five l) (by rw [List.length_map]; exact h)
/-- What Read collects is what the rows of the roll say. -/
theorem rdE_is {qs : List Rw} {R : Ro} (h : QsOf qs R) {rt least gap : Int} {th : List Th} (hl : th.length ≤ 127) : rdE qs rt least gap th = evsR R rt least gap th := by
  refine evsT_congr fun j h1 h2 => ?_
  unfold slotsR
  rw [h.len]
  refine slotsP_congr fun i hi => ?_
  have hq : i < qs.length := by rw [h.len]; exact hi
  unfold holeF trk
  rw [getD_at hq, getD_at hi, hasB_at (show j < 128 by omega)]
  exact (h.at' i hq hi).2 j (by omega)
theorem sm_ev {S : Sp} (ok : SpOk S) {rt least : Int} {th : List Th} (hsc : scE S rt th = 0) {sl : Nat → List (Nat × Nat)} {k : Nat} : ∀ e ∈ evsT rt least sl k th, SmE e := by
  intro e he
  have hs := scE_ok hsc
  have := evsT_small (P := fun x => 1 ≤ x.1 ∧ x.1 ≤ 3 ∧ 0 ≤ x.2.1 ∧ x.2.1 ≤ 1000 ∧ 0 ≤ x.2.2 ∧ x.2.2 ≤ 1000) (fun x hx => th_small ok.d ok.s ok.c hs.sp (hs.good x hx)) he
  unfold thing at this
  simp only at this
  unfold SmE
  omega
/-- How Read ends on the road without errors. -/
def RdR (E : List Ev) (w : World) (e : Ending) (w' : World) : Prop := ∃ v m c, e = .returned (.tuple #[v, .int .i64 c]) ∧ RdP E m c ∧ ARd w' v 5 (m.map evC5) ∧ Below w.heap.size w w'
theorem ev_info : (Tryz.prog.info? 68).map (fun i => (i.zero, i.size, i.bytes)) = some (some (.agg #[.int .i64 0, .int .i64 0, .int .i64 0, .int .i64 0, .int .i64 0]), 5, 40) := by kernel_rfl
set_option maxRecDepth 100000 in
set_option maxHeartbeats 6400000 in
theorem read_in (n : Nat) (hn : 6 ≤ n) (v1 v2 v3 v4 : Value) (S : Sp) (ok : SpOk S) (f : Nat → Value) (R : Ro) (rok : RoOk R) (rv : Value) (g : Nat → Value) (rt : Int) (th : List Th) (vt : Value) (least gap : Int) (w : World) (t : Tabs w) (hsp : SpRd w v1 v2 v3 v4 f S) (hr : RoRd w rv g R) (hl : th.length ≤ 1000000) (hth : ARd w vt 3 (th.map thC)) (hct : ∀ a n c, vt = .slice a n c → n ≤ c)
    (hre : rollErr R true = 0) (hsc : scE S rt th = 0) (htr : R.tracks = th.length + 1) (hle : 1 ≤ least ∧ least ≤ 100) (hga : 0 ≤ gap ∧ gap ≤ 100) :
    CallsIn Fence.wide n Tryz.prog 15 #[.agg #[v1, v2, v3, v4], .agg #[.int .i64 R.tracks, rv], .agg #[.int .i64 rt, vt], .agg #[.int .i64 least, .int .i64 gap]] w (RdR (evsR R rt least gap th) w) := by
  refine callsIn_of_wp_marks Tryz.func15 rfl trivial ?_ rfl
  simp only [Tryz.ntmps15, List.size_toArray, List.length_cons, List.length_nil, Nat.reduceAdd, Nat.reduceSub, Array.replicate_succ, Array.replicate_zero, List.push_toArray, List.append_toArray, List.nil_append, List.cons_append]
  obtain ⟨at', ct, rfl⟩ := hth.thForm
  have HR := Lib.hid hr
  have HSP := Lib.hid hsp
  have HT := Lib.hid t
  have HOK := Lib.hid ok
  have HRO := Lib.hid rok
  have HTH := Lib.hid hth
  have HCT := Lib.hid hct
  have HRE := Lib.hid hre
  have HSC := Lib.hid hsc
  have HTR := Lib.hid htr
  have htb : (R.tracks == (th.length : Int) + 1) = true := by rw [beq_iff_eq]; exact htr
  obtain ⟨hle1, hle2⟩ := hle
  obtain ⟨hga1, hga2⟩ := hga
  have hth127 := (scE_ok hsc).th2
  have hrt1 := (scE_ok hsc).rt1
  have hrt2 := (scE_ok hsc).rt2
  clear hr hsp t ok rok hth hct hre hsc htr
  have hb0 : Below w.heap.size w ((((w.alloc (.cells #[v1, v2, v3, v4] 27)).alloc (.cells #[.int .i64 R.tracks, rv] 36)).alloc (.cells #[.int .i64 rt, .slice at' th.length ct] 31)).alloc (.cells #[.int .i64 least, .int .i64 gap] 43)) := (((((Below.refl w.heap.size w).alloc (Nat.le_refl _) _).alloc (by simp) _).alloc (by simp; omega) _).alloc (by simp; omega) _)
  have k1 := (((Blk.new w 27 #[v1, v2, v3, v4]).alloc (.cells #[.int .i64 R.tracks, rv] 36)).alloc (.cells #[.int .i64 rt, .slice at' th.length ct] 31)).alloc (.cells #[.int .i64 least, .int .i64 gap] 43)
  have k2 := ((Blk.new (w.alloc (.cells #[v1, v2, v3, v4] 27)) 36 #[.int .i64 R.tracks, rv]).alloc (.cells #[.int .i64 rt, .slice at' th.length ct] 31)).alloc (.cells #[.int .i64 least, .int .i64 gap] 43)
  have k3 := (Blk.new ((w.alloc (.cells #[v1, v2, v3, v4] 27)).alloc (.cells #[.int .i64 R.tracks, rv] 36)) 31 #[.int .i64 rt, .slice at' th.length ct]).alloc (.cells #[.int .i64 least, .int .i64 gap] 43)
  have k4 := Blk.new (((w.alloc (.cells #[v1, v2, v3, v4] 27)).alloc (.cells #[.int .i64 R.tracks, rv] 36)).alloc (.cells #[.int .i64 rt, .slice at' th.length ct] 31)) 43 #[.int .i64 least, .int .i64 gap]
  simp only [World.size_alloc] at k2 k3 k4
  have HB0 := Lib.hid hb0
  have K1 := Lib.hid k1
  have K2 := Lib.hid k2
  have K3 := Lib.hid k3
  have K4 := Lib.hid k4
  clear hb0 k1 k2 k3 k4
  gi_wp2_with fail
  refine ⟨trivial, ?_⟩
  generalize (((w.alloc (.cells #[v1, v2, v3, v4] 27)).alloc (.cells #[.int .i64 R.tracks, rv] 36)).alloc (.cells #[.int .i64 rt, .slice at' th.length ct] 31)).alloc (.cells #[.int .i64 least, .int .i64 gap] 43) = W0 at *
  refine ⟨(fun _ => (by omega)), ?_⟩
  refine (callsIn_wide.2 (load_any R true HRO.out rv g _ (HR.out.later HB0.out))).mono ?_
  rintro e W1 ⟨hb1, ⟨he, rfl⟩ | ⟨he, P, pv, qs, rfl, hp, hqs⟩⟩
  · exact absurd HRE.out he
  · have HB1 := Lib.hid (below_step HB0.out hb1)
    have L1 := Lib.hid (K1.out.below hb1)
    have L2 := Lib.hid (K2.out.below hb1)
    have L3 := Lib.hid (K3.out.below hb1)
    have L4 := Lib.hid (K4.out.below hb1)
    have x0 : W1.cell? ⟨w.heap.size, 0, none⟩ = some v1 := L1.out.cell 0
    have x1 : W1.cell? ⟨w.heap.size, 1, none⟩ = some v2 := L1.out.cell 1
    have x2 : W1.cell? ⟨w.heap.size, 2, none⟩ = some v3 := L1.out.cell 2
    have x3 : W1.cell? ⟨w.heap.size, 3, none⟩ = some v4 := L1.out.cell 3
    have y0 : W1.cell? ⟨w.heap.size + 1 + 1, 0, none⟩ = some (.int .i64 rt) := L3.out.cell 0
    have y1 : W1.cell? ⟨w.heap.size + 1 + 1, 1, none⟩ = some (.slice at' th.length ct) := L3.out.cell 1
    have HPP := Lib.hid hp
    have HQS := Lib.hid hqs
    have HQL := Lib.hid (show qs.length ≤ 20000 by rw [hqs.len]; exact (rollGood HRE.out).len)
    clear hb1 he hp hqs
    gi_wp2_with fail
    refine ⟨trivial, (fun _ => (by omega)), ?_⟩
    refine (callsIn_wide.2 (scale_any v1 v2 v3 v4 S HOK.out f rt th _ _ (HT.out.below HB1.out) (HSP.out.later HB1.out) hl (HTH.out.later HB1.out) HCT.out)).mono ?_
    rintro e W2 ⟨rfl, hb2⟩
    rw [HSC.out]
    have HB2 := Lib.hid (below_step HB1.out hb2)
    have M2 := Lib.hid (L2.out.below hb2)
    have M3 := Lib.hid (L3.out.below hb2)
    have M4 := Lib.hid (L4.out.below hb2)
    have HP2 := Lib.hid (HPP.out.below hb2)
    clear hb2 x0 x1 x2 x3 y0 y1
    have z0 : W2.cell? ⟨w.heap.size + 1, 0, none⟩ = some (.int .i64 R.tracks) := M2.out.cell 0
    have y0 : W2.cell? ⟨w.heap.size + 1 + 1, 0, none⟩ = some (.int .i64 rt) := M3.out.cell 0
    have y1 : W2.cell? ⟨w.heap.size + 1 + 1, 1, none⟩ = some (.slice at' th.length ct) := M3.out.cell 1
    have t0 : W2.cell? ⟨w.heap.size + 1 + 1 + 1, 0, none⟩ = some (.int .i64 least) := M4.out.cell 0
    have t1 : W2.cell? ⟨w.heap.size + 1 + 1 + 1, 1, none⟩ = some (.int .i64 gap) := M4.out.cell 1
    have y1' := cell_alloc y1
    gi_wp2
    have HM0 := Lib.hid (show RdInv qs th rt least gap W2 (W2.alloc (.cells #[.slice none 0 0] 28)) 0 [] from rd_start qs th rt least gap W2)
    refine wpIn_loop (fun a wr => ∃ (u14 u15 u16 u17 u18 u19 u64 u65 u66 u67 u68 u69 u70 u71 u72 u73 u74 u75 u76 u77 u78 u79 u80 u81 u82 u83 u84 u85 u86 u87 u88 u89 u90 u91 u92 u93 u94 u95 u96 u97 u98 u99 u100 u101 u102 u103 u104 u105 u106 u107 u108 : Value) (Ds : List Nat), (∃ k : Nat, k ≤ th.length ∧ u64 = .int .i64 k ∧ RowKit.Hid (RdInv qs th rt least gap W2 wr k Ds)) ∧ a = { tmps := #[.agg #[v1, v2, v3, v4], .agg #[.int .i64 R.tracks, rv], .agg #[.int .i64 rt, .slice at' th.length ct], .agg #[.int .i64 least, .int .i64 gap], .pointer (some ⟨w.heap.size, 0, none⟩), .pointer (some ⟨w.heap.size + 1, 0, none⟩), .pointer (some ⟨w.heap.size + 1 + 1, 0, none⟩), .pointer (some ⟨w.heap.size + 1 + 1 + 1, 0, none⟩), .slice none 0 0, .int .i64 0, .pointer (some ⟨P, 0, none⟩), .int .i64 0, .int .i64 0, .pointer (some ⟨W2.heap.size, 0, none⟩), u14, u15, u16, u17, u18, u19, .tuple #[.pointer (some ⟨P, 0, none⟩), .int .i64 0], .agg #[.int .i64 R.tracks, rv], .tuple #[.pointer (some ⟨P, 0, none⟩), .int .i64 0], .pointer (some ⟨P, 0, none⟩), .int .i64 0, .int .i64 0, .bool false, undef, .agg #[v1, v2, v3, v4], .agg #[.int .i64 rt, .slice at' th.length ct], .int .i64 0, .int .i64 0, .bool false, undef, .bool false, .pointer (some ⟨w.heap.size + 1, 0, none⟩), .int .i64 R.tracks, .pointer (some ⟨w.heap.size + 1 + 1, 1, none⟩), .slice at' th.length ct, .int .i64 (th.length : Int), .int .i64 ((th.length : Int) + 1), .bool false, .bool (decide (least < 1) || decide (100 < least) || decide (gap < 0) || decide (100 < gap)), .pointer (some ⟨w.heap.size + 1 + 1 + 1, 0, none⟩), .int .i64 least, .bool (decide (least < 1)), .bool (decide (least < 1)), .pointer (some ⟨w.heap.size + 1 + 1 + 1, 0, none⟩), .int .i64 least, .bool (decide (100 < least)), .bool (decide (least < 1) || decide (100 < least)), .bool (decide (least < 1) || decide (100 < least)), .pointer (some ⟨w.heap.size + 1 + 1 + 1, 1, none⟩), .int .i64 gap, .bool (decide (gap < 0)), .bool (decide (least < 1) || decide (100 < least) || decide (gap < 0)), .bool (decide (least < 1) || decide (100 < least) || decide (gap < 0)), .pointer (some ⟨w.heap.size + 1 + 1 + 1, 1, none⟩), .int .i64 gap, .bool (decide (100 < gap)), .bool (decide (least < 1) || decide (100 < least) || decide (gap < 0) || decide (100 < gap)), .pointer (some ⟨w.heap.size + 1 + 1, 1, none⟩), .slice at' th.length ct, .int .i64 (th.length : Int), u64, u65, u66, u67, u68, u69, u70, u71, u72, u73, u74, u75, u76, u77, u78, u79, u80, u81, u82, u83, u84, u85, u86, u87, u88, u89, u90, u91, u92, u93, u94, u95, u96, u97, u98, u99, u100, u101, u102, u103, u104, u105, u106, u107, u108, undef, undef, undef, undef, undef, undef], defers := marks Ds }) (fun a _ => th.length - (intOf (a.tmps.getD 64 undef)).toNat) ?_ ?_
    · repeat apply Exists.intro
      exact ⟨⟨0, Nat.zero_le _, rfl, HM0⟩, rfl⟩
    · intro _ wr hinv
      obtain ⟨u14, u15, u16, u17, u18, u19, u64, u65, u66, u67, u68, u69, u70, u71, u72, u73, u74, u75, u76, u77, u78, u79, u80, u81, u82, u83, u84, u85, u86, u87, u88, u89, u90, u91, u92, u93, u94, u95, u96, u97, u98, u99, u100, u101, u102, u103, u104, u105, u106, u107, u108, Ds, ⟨k, hk, rfl, hI⟩, ha⟩ := hinv
      subst ha
      have T := HTH.out.later (below_step HB2.out hI.out.b)
      have y0' : wr.cell? ⟨w.heap.size + 1 + 1, 0, none⟩ = some (.int .i64 rt) := (M3.out.below hI.out.b).cell 0
      have t0' : wr.cell? ⟨w.heap.size + 1 + 1 + 1, 0, none⟩ = some (.int .i64 least) := (M4.out.below hI.out.b).cell 0
      have t1' : wr.cell? ⟨w.heap.size + 1 + 1 + 1, 1, none⟩ = some (.int .i64 gap) := (M4.out.below hI.out.b).cell 1
      by_cases hlt : k < th.length
      · have hlt2 : (k : Int) < (th.length : Int) := by omega
        obtain ⟨b, o, c, ec, hbl, q0, q1, q2⟩ := T.thAt k hlt
        cases ec
        have k1 := Blk.new wr 82 #[.int .i64 th[k].1, .int .i64 th[k].2.1, .int .i64 th[k].2.2]
        have kb : Below wr.heap.size wr (wr.alloc (.cells #[.int .i64 th[k].1, .int .i64 th[k].2.1, .int .i64 th[k].2.2] 82)) := (Below.refl _ _).alloc (Nat.le_refl _) _
        have y0a := cell_alloc y0'
        have t0a := cell_alloc t0'
        have t1a := cell_alloc t1'
        clear y0' t0' t1' z0 y0 y1 y1' t0 t1
        have KX := Lib.hid k1
        have KB := Lib.hid kb
        have TT := Lib.hid T
        clear k1 kb T
        gi_wp2_with fail
        refine ⟨trivial, (fun _ => (by omega)), ?_⟩
        refine (callsIn_wide.2 (slots_any P _ _ _)).mono ?_
        rintro e W4 ⟨rfl, hbp, hbt, hbg, hb4⟩
        have hb04 := below_step KB.out hb4
        have hBp : (wr.alloc (.cells #[.int .i64 th[k].1, .int .i64 th[k].2.1, .int .i64 th[k].2.2] 82)).heap.size = wr.heap.size + 1 := World.size_alloc _ _
        have kx4 := KX.out.below hb4
        have hsz5 : wr.heap.size + 1 ≤ W4.heap.size := by have := hb4.size; rw [hBp] at this; exact this
        rw [hBp] at hbp hbt hbg ⊢
        have hsz4 := hb04.size
        have hsz2 := hI.out.b.size
        have hszw : W2.heap.size < wr.heap.size := by obtain ⟨v, hv, _⟩ := hI.out.out; exact hv.lt
        have hszb := hbg.lt
        have H0 := Lib.hid (show RsInv (N := qs.length) (rdE qs rt least gap (th.take k)) rt least W2 P (wr.heap.size + 1) (wr.heap.size + 1 + 1) (wr.heap.size + 1 + 1 + 1) wr.heap.size ((k : Int) + 1) gap th[k] Ds [] W4 from ⟨by rw [List.map_nil, evsL, List.append_nil]; exact hI.out.out.below hb04, hI.out.marks.below hb04, hbp, hbt, hbg, kx4, below_step hI.out.b hb04⟩)
        have HD := Lib.hid (fun D (hD : D ∈ Ds) => Nat.lt_of_lt_of_le (hI.out.marks.lt hD) hsz4)
        have hqs := HP2.out.ok
        clear hbp hbt hbg hb4 hb04 kx4 KX KB hBp y0a t0a t1a q0 q1 q2
        gi_wp2_with fail
        refine' wpIn_rangeFunc_ownG (a₁ := _) rfl (by omega) (gf := 81) (lb := #[.pointer (some ⟨wr.heap.size + 1, 0, none⟩), .pointer (some ⟨wr.heap.size + 1 + 1, 0, none⟩), .pointer (some ⟨wr.heap.size + 1 + 1 + 1, 0, none⟩)]) rfl trivial (enters_of Tryz.func81 (by kernel_rfl) rfl)
          (slots_stops (n - 1) (by omega) W0.heap.size (wr.heap.size + 1) (wr.heap.size + 1 + 1) (wr.heap.size + 1 + 1 + 1) P R.tracks pv qs ((k : Int) + 1) gap HQL.out (fun A B => SlIn A W0.heap.size (wr.heap.size + 1) (wr.heap.size + 1 + 1) (wr.heap.size + 1 + 1 + 1) P R.tracks pv qs ((k : Int) + 1) gap → SlIn B W0.heap.size (wr.heap.size + 1) (wr.heap.size + 1 + 1) (wr.heap.size + 1 + 1 + 1) P R.tracks pv qs ((k : Int) + 1) gap) (fun _ _ h => h) W4 (H0.out.slIn HP2.out))
          (fun h k s => k (h s)) (fun _ _ _ o' _ h1 h2 _ s => s.putObj o' h1 h2) (Below.refl _ _) (fun _ => rfl)
          (RsInv (N := qs.length) (rdE qs rt least gap (th.take k)) rt least W2 P (wr.heap.size + 1) (wr.heap.size + 1 + 1) (wr.heap.size + 1 + 1 + 1) wr.heap.size ((k : Int) + 1) gap th[k] Ds) (fun _ _ _ => False) (RsInv.ownFrom HD.out (by omega)) (fun _ _ _ _ _ hs _ _ => hs) H0.out ?assign ?body ?done ?stop
        case assign =>
          intro l x W K hK
          dsimp only [slE]
          gi_wp2
          exact hK
        case body =>
          rintro l pre x W hR hlp
          obtain ⟨a, ha⟩ : ∃ a, x.1.1 = a := ⟨_, rfl⟩
          obtain ⟨d, hd⟩ : ∃ d, x.1.2 = d := ⟨_, rfl⟩
          have hx1 : a ≤ d := by rw [← ha, ← hd]; exact x.2.1
          have hx2 : d < 20000 := by rw [← hd]; have := x.2.2; have := HQL.out; omega
          rw [ha, hd]
          have R3 := M3.out.below hR.b
          have y0 : W.cell? ⟨w.heap.size + 1 + 1, 0, none⟩ = some (.int .i64 rt) := R3.cell 0
          have t0 : W.cell? ⟨w.heap.size + 1 + 1 + 1, 0, none⟩ = some (.int .i64 least) := (M4.out.below hR.b).cell 0
          clear R3
          by_cases hs : (d : Int) - a + 1 < least
          · gi_wp2
            exact ⟨KeepsFrom.refl _ _, fun s => s, hR.short (by rw [ha, hd]; exact hs)⟩
          · have hm1 : 0 ≤ (a : Int) * rt := Int.mul_nonneg (by omega) (by omega)
            have hm2 : (a : Int) * rt ≤ 20000 * 1000 := Int.mul_le_mul (by omega) hrt2 (by omega) (by omega)
            have hm3 : 0 ≤ ((d : Int) + 1) * rt := Int.mul_nonneg (by omega) (by omega)
            have hm4 : ((d : Int) + 1) * rt ≤ 20000 * 1000 := Int.mul_le_mul (by omega) hrt2 (by omega) (by omega)
            have kx0 : W.cell? ⟨wr.heap.size, 0, none⟩ = some (.int .i64 th[k].1) := hR.kx.cell 0
            have kx1 : W.cell? ⟨wr.heap.size, 1, none⟩ = some (.int .i64 th[k].2.1) := hR.kx.cell 1
            have kx2 : W.cell? ⟨wr.heap.size, 2, none⟩ = some (.int .i64 th[k].2.2) := hR.kx.cell 2
            have m1 := (Blk.new W 68 #[.int .i64 ((a : Int) * rt), .int .i64 th[k].1, .int .i64 th[k].2.1, .int .i64 th[k].2.2, .int .i64 1]).alloc (.cells #[.int .i64 ((a : Int) * rt), .int .i64 th[k].1, .int .i64 th[k].2.1, .int .i64 th[k].2.2, .int .i64 1] 68)
            have m2 := Blk.new (W.alloc (.cells #[.int .i64 ((a : Int) * rt), .int .i64 th[k].1, .int .i64 th[k].2.1, .int .i64 th[k].2.2, .int .i64 1] 68)) 68 #[.int .i64 ((a : Int) * rt), .int .i64 th[k].1, .int .i64 th[k].2.1, .int .i64 th[k].2.2, .int .i64 1]
            rw [World.size_alloc] at m2
            have y0b := fun o => cell_alloc (cell_alloc y0 o)
            have n0 := m2.cell 0
            have n4 := m2.cell 4
            have f0 := m2.frozen 0
            have f4 := m2.frozen 4
            obtain ⟨W6, hW6⟩ : ∃ W6, (W.alloc (.cells #[.int .i64 ((a : Int) * rt), .int .i64 th[k].1, .int .i64 th[k].2.1, .int .i64 th[k].2.2, .int .i64 1] 68)).alloc (.cells #[.int .i64 (((d : Int) + 1) * rt), .int .i64 th[k].1, .int .i64 th[k].2.1, .int .i64 th[k].2.2, .int .i64 0] 68) = W6 := ⟨_, rfl⟩
            have hb6 : Below W.heap.size W W6 := by rw [← hW6]; exact ((Below.refl _ W).alloc (Nat.le_refl _) _).alloc (by simp) _
            have b1 : Blk W6 W.heap.size 68 #[.int .i64 ((a : Int) * rt), .int .i64 th[k].1, .int .i64 th[k].2.1, .int .i64 th[k].2.2, .int .i64 1] := by rw [← hW6]; exact (Blk.new W 68 #[.int .i64 ((a : Int) * rt), .int .i64 th[k].1, .int .i64 th[k].2.1, .int .i64 th[k].2.2, .int .i64 1]).alloc _
            have b2 : Blk W6 (W.heap.size + 1) 68 #[.int .i64 (((d : Int) + 1) * rt), .int .i64 th[k].1, .int .i64 th[k].2.1, .int .i64 th[k].2.2, .int .i64 0] := by
              have := Blk.new (W.alloc (.cells #[.int .i64 ((a : Int) * rt), .int .i64 th[k].1, .int .i64 th[k].2.1, .int .i64 th[k].2.2, .int .i64 1] 68)) 68 #[.int .i64 (((d : Int) + 1) * rt), .int .i64 th[k].1, .int .i64 th[k].2.1, .int .i64 th[k].2.2, .int .i64 0]
              rw [World.size_alloc, hW6] at this
              exact this
            have ko6 : KeepsOthers W W6 := by rw [← hW6]; exact (KeepsOthers.alloc W _).trans (KeepsOthers.alloc _ _)
            have hR6 := Lib.hid (hR.below hb6)
            obtain ⟨v, hv, hrow⟩ := hR6.out.out
            have hsz6 := hb6.size
            have hszv := hv.lt
            have hlen : ((rdE qs rt least gap (th.take k)) ++ evsL rt least th[k] (pre.map (·.1))).length ≤ 5120000 := by
              have h1 := rdE_len qs rt least gap (th.take k) HQL.out (by rw [List.length_take]; omega)
              have h2 := evsL_len rt least th[k] (pre.map (·.1))
              have h3 := slotsP_len (f := holeF qs ((k : Int) + 1)) (gap := gap) qs.length
              have h4 := HQL.out
              rw [List.length_map] at h2
              rw [List.length_append]
              omega
            have u0 : W6.cell? ⟨W.heap.size, 0, none⟩ = some (.int .i64 ((a : Int) * rt)) := b1.cell 0
            have u1 : W6.cell? ⟨W.heap.size, 1, none⟩ = some (.int .i64 th[k].1) := b1.cell 1
            have u2 : W6.cell? ⟨W.heap.size, 2, none⟩ = some (.int .i64 th[k].2.1) := b1.cell 2
            have u3 : W6.cell? ⟨W.heap.size, 3, none⟩ = some (.int .i64 th[k].2.2) := b1.cell 3
            have u4 : W6.cell? ⟨W.heap.size, 4, none⟩ = some (.int .i64 1) := b1.cell 4
            have q0 : W6.cell? ⟨W.heap.size + 1, 0, none⟩ = some (.int .i64 (((d : Int) + 1) * rt)) := b2.cell 0
            have q1 : W6.cell? ⟨W.heap.size + 1, 1, none⟩ = some (.int .i64 th[k].1) := b2.cell 1
            have q2 : W6.cell? ⟨W.heap.size + 1, 2, none⟩ = some (.int .i64 th[k].2.1) := b2.cell 2
            have q3 : W6.cell? ⟨W.heap.size + 1, 3, none⟩ = some (.int .i64 th[k].2.2) := b2.cell 3
            have q4 : W6.cell? ⟨W.heap.size + 1, 4, none⟩ = some (.int .i64 0) := b2.cell 4
            obtain ⟨L, hL⟩ : ∃ L, ((rdE qs rt least gap (th.take k)) ++ evsL rt least th[k] (pre.map (·.1))).length = L := ⟨_, rfl⟩
            rw [hL] at hrow hlen
            have HL := Lib.hid hL
            clear hL
            have hc := hv.cell
            have HM1 := Lib.hid m1
            have HM2 := Lib.hid m2
            have HV := Lib.hid hv
            have HROW := Lib.hid hrow
            have HKO := Lib.hid ko6
            clear m1 m2 b1 b2 hv hrow hb6 ko6 hR
            obtain ⟨i0, hi0, hz0, hz1, hz2⟩ := info_parts ev_info
            gi_wp2_with (gi_at_builtin; refine wpListIn_append_own _ rfl _ _ 28 rfl (W2.heap.size + 1) 68 i0 _ 5 40 Tryz.underlying28 hi0 hz0 hz1 hz2 rfl (by decide) _ _ _ rfl (HROW.out.alloc _) ⟨W6.heap.size, 0, none⟩ 2 2 [.int .i64 ((a : Int) * rt), .int .i64 th[k].1, .int .i64 th[k].2.1, .int .i64 th[k].2.2, .int .i64 1, .int .i64 (((d : Int) + 1) * rt), .int .i64 th[k].1, .int .i64 th[k].2.1, .int .i64 th[k].2.2, .int .i64 0] rfl rfl (World.news_of_block (cs := #[.int .i64 ((a : Int) * rt), .int .i64 th[k].1, .int .i64 th[k].2.1, .int .i64 th[k].2.2, .int .i64 1, .int .i64 (((d : Int) + 1) * rt), .int .i64 th[k].1, .int .i64 th[k].2.1, .int .i64 th[k].2.2, .int .i64 0]) (t := 68) (fr := (0, 0)) (heap_alloc_new W6 _)) (by simp [Value.oneCell']) (by unfold maxLen; omega) (by omega) (by simp; omega) ?_; intro v' w1 hown' hgrow _; obtain ⟨g', cap', rfl⟩ := ownsRow_succ hown'; obtain ⟨hv1, hR7, ko7⟩ := hR6.out.appended (by omega) (by omega) (by omega) (by omega) (s := x) (by rw [ha, hd]; exact hs) HV.out (by rw [HL.out]; exact HROW.out) hown' (by rw [HL.out]) (by rw [evsOf, ha, hd]; rfl) hgrow; have hc1 := hv1.cell; have hf1 := hv1.frozen)
            exact ⟨(HKO.out.trans ko7).from _, fun _ => hR7.slIn HP2.out, hR7⟩
        case done =>
          rintro D ys W hD hys hR hK
          have HI2 := Lib.hid (RsInv.next hlt hR hys (fun hm => by have := HD.out D hm; omega) (by omega) hK)
          clear hR hK
          gi_wp2_with fail
          refine ⟨?_, ?_⟩
          · repeat apply Exists.intro
            exact ⟨⟨k + 1, by omega, by go_num, HI2⟩, rfl⟩
          · simp [intOf]; omega
        case stop =>
          rintro D c pre W _ _ h _
          exact h.elim
      · have hlt2 : ¬ ((k : Int) < (th.length : Int)) := by omega
        have hke : k = th.length := by omega
        have HI3 := Lib.hid (show RdInv qs th rt least gap W2 wr th.length Ds by rw [← hke]; exact hI.out)
        clear hke
        obtain ⟨v, hv, hrow⟩ := HI3.out.out
        rw [List.take_length] at hrow
        have hc := hv.cell
        obtain ⟨av, cv, ev⟩ := own_form hrow
        obtain ⟨E, hE⟩ : ∃ E, rdE qs rt least gap th = E := ⟨_, rfl⟩
        rw [hE] at hrow ev
        subst ev
        have HROW := Lib.hid hrow
        have HV := Lib.hid hv
        clear hrow hv y0' t0' t1'
        by_cases hlong : (20000 : Int) < (E.length : Int)
        · have HE2 := Lib.hid (hE.symm.trans (rdE_is HQS.out hth127))
          clear hE
          gi_wp2_with fail
          refine marks_ret (v := .tuple #[.slice none 0 0, .int .i64 3]) HI3.out.marks rfl (fun w => by simp [results, Tryz.results15, go_sem]) ⟨_, [], 3, rfl, .inl ⟨?_, rfl, rfl⟩, ARd.empty _ _, ?_⟩
          · rw [← HE2.out]; omega
          · exact (below_step HB2.out HI3.out.b).trans (below_cleared fun D hD => Nat.le_trans HB2.out.size (HI3.out.marks.at' D hD).1)
        · have HSM := Lib.hid (show ∀ p ∈ E, SmE p by rw [← hE]; exact sm_ev HOK.out HSC.out)
          have HE2 := Lib.hid (hE.symm.trans (rdE_is HQS.out hth127))
          clear hE
          gi_wp2_with fail
          refine ⟨trivial, (fun _ => (by omega)), ?_⟩
          refine (callsIn_wide.2 (sortE_any E HSM.out (by omega) _ _ _ HROW.out)).mono ?_
          rintro e W5 ⟨rfl, m, hmp, hms, hown, hg5⟩
          have hv5 := HV.out.kept hg5 (HV.out.not_row (by decide) HROW.out)
          have hml := hmp.length_eq
          have hc5 := hv5.cell
          have HM5 := Lib.hid (HI3.out.marks.keeps fun D hD => hg5.block D (HI3.out.marks.lt hD) (fun e => by
            have h1 := (HI3.out.marks.at' D hD).2
            rcases HROW.out.2 with ⟨h2, _⟩ | ⟨g, cap, cur, h2, _, hgb, _⟩
            · rw [h2] at e; cases e
            · rw [h2] at e; cases e; rw [h1] at hgb; cases hgb))
          have HB5 := Lib.hid ((below_step HB2.out HI3.out.b).grown hg5 (below_step HB2.out HI3.out.b).size (fun j ej => by
            rcases HROW.out.2 with ⟨h2, _⟩ | ⟨g, cap, cur, h2, hgl, _⟩
            · rw [h2] at ej; cases ej
            · rw [h2] at ej; cases ej; have := HB2.out.size; show w.heap.size ≤ g; omega))
          have HA5 := Lib.hid (ev_ard hown)
          have HP5 := Lib.hid hmp
          have HS5 := Lib.hid hms
          clear hown hg5 hv5 hmp hms
          gi_wp2_with fail
          refine marks_ret HM5.out rfl (fun w => by simp [results, Tryz.results15, go_sem]) ⟨_, m, 0, rfl, .inr ⟨?_, ?_, HS5.out, rfl⟩, HA5.out.cleared HM5.out, ?_⟩
          · rw [← HE2.out]; omega
          · rw [← HE2.out]; exact HP5.out
          · exact HB5.out.trans (below_cleared fun D hD => Nat.le_trans HB2.out.size (HM5.out.at' D hD).1)
theorem rdErr_roll {S : Sp} {R : Ro} {rt : Int} {th : List Th} {least gap : Int} (h : rollErr R true ≠ 0) : rdErr S R rt th least gap = rollErr R true := by unfold rdErr; rw [if_neg h]
theorem rdErr_scale {S : Sp} {R : Ro} {rt : Int} {th : List Th} {least gap : Int} (h : rollErr R true = 0) (h2 : scE S rt th ≠ 0) : rdErr S R rt th least gap = scE S rt th := by unfold rdErr; rw [if_pos h, if_neg h2]
theorem rdErr_tracks {S : Sp} {R : Ro} {rt : Int} {th : List Th} {least gap : Int} (h : rollErr R true = 0) (h2 : scE S rt th = 0) (h3 : R.tracks ≠ th.length + 1) : rdErr S R rt th least gap = 2 := by unfold rdErr; rw [if_pos h, if_pos h2, if_pos h3]
theorem rdErr_range {S : Sp} {R : Ro} {rt : Int} {th : List Th} {least gap : Int} (h : rollErr R true = 0) (h2 : scE S rt th = 0) (h3 : R.tracks = th.length + 1) (h4 : least < 1 ∨ 100 < least ∨ gap < 0 ∨ 100 < gap) : rdErr S R rt th least gap = 7 := by unfold rdErr; rw [if_pos h, if_pos h2, if_neg (fun q => q h3), if_pos h4]
theorem rdErr_good {S : Sp} {R : Ro} {rt : Int} {th : List Th} {least gap : Int} (h : rollErr R true = 0) (h2 : scE S rt th = 0) (h3 : R.tracks = th.length + 1) (h4 : ¬ (least < 1 ∨ 100 < least ∨ gap < 0 ∨ 100 < gap)) : rdErr S R rt th least gap = 0 := by unfold rdErr; rw [if_pos h, if_pos h2, if_neg (fun q => q h3), if_neg h4]
def RdBad (n : Int) (w : World) (e : Ending) (w' : World) : Prop := e = .returned (.tuple #[.slice none 0 0, .int .i64 n]) ∧ Below w.heap.size w w'
set_option maxRecDepth 100000 in
set_option maxHeartbeats 3200000 in
theorem read_bad (v1 v2 v3 v4 : Value) (S : Sp) (ok : SpOk S) (f : Nat → Value) (R : Ro) (rok : RoOk R) (rv : Value) (g : Nat → Value) (rt : Int) (th : List Th) (vt : Value) (least gap : Int) (w : World) (t : Tabs w) (hsp : SpRd w v1 v2 v3 v4 f S) (hr : RoRd w rv g R) (hl : th.length ≤ 1000000) (hth : ARd w vt 3 (th.map thC)) (hct : ∀ a n c, vt = .slice a n c → n ≤ c)
    (hne : rdErr S R rt th least gap ≠ 0) :
    Calls Tryz.prog 15 #[.agg #[v1, v2, v3, v4], .agg #[.int .i64 R.tracks, rv], .agg #[.int .i64 rt, vt], .agg #[.int .i64 least, .int .i64 gap]] w (RdBad (rdErr S R rt th least gap) w) := by
  obtain ⟨at', ct, rfl⟩ := hth.thForm
  have HR := Lib.hid hr
  have HSP := Lib.hid hsp
  have HT := Lib.hid t
  have HOK := Lib.hid ok
  have HRO := Lib.hid rok
  have HTH := Lib.hid hth
  have HCT := Lib.hid hct
  have HNE := Lib.hid hne
  have hb0 : Below w.heap.size w ((((w.alloc (.cells #[v1, v2, v3, v4] 27)).alloc (.cells #[.int .i64 R.tracks, rv] 36)).alloc (.cells #[.int .i64 rt, .slice at' th.length ct] 31)).alloc (.cells #[.int .i64 least, .int .i64 gap] 43)) := (((((Below.refl w.heap.size w).alloc (Nat.le_refl _) _).alloc (by simp) _).alloc (by simp; omega) _).alloc (by simp; omega) _)
  have k1 := (((Blk.new w 27 #[v1, v2, v3, v4]).alloc (.cells #[.int .i64 R.tracks, rv] 36)).alloc (.cells #[.int .i64 rt, .slice at' th.length ct] 31)).alloc (.cells #[.int .i64 least, .int .i64 gap] 43)
  have k2 := ((Blk.new (w.alloc (.cells #[v1, v2, v3, v4] 27)) 36 #[.int .i64 R.tracks, rv]).alloc (.cells #[.int .i64 rt, .slice at' th.length ct] 31)).alloc (.cells #[.int .i64 least, .int .i64 gap] 43)
  have k3 := (Blk.new ((w.alloc (.cells #[v1, v2, v3, v4] 27)).alloc (.cells #[.int .i64 R.tracks, rv] 36)) 31 #[.int .i64 rt, .slice at' th.length ct]).alloc (.cells #[.int .i64 least, .int .i64 gap] 43)
  have k4 := Blk.new (((w.alloc (.cells #[v1, v2, v3, v4] 27)).alloc (.cells #[.int .i64 R.tracks, rv] 36)).alloc (.cells #[.int .i64 rt, .slice at' th.length ct] 31)) 43 #[.int .i64 least, .int .i64 gap]
  rw [World.size_alloc] at k2
  rw [World.size_alloc, World.size_alloc] at k3
  rw [World.size_alloc, World.size_alloc, World.size_alloc] at k4
  have HB0 := Lib.hid hb0
  have K1 := Lib.hid k1
  have K2 := Lib.hid k2
  have K3 := Lib.hid k3
  have K4 := Lib.hid k4
  clear hb0 k1 k2 k3 k4 hr hsp t ok rok hth hct hne
  go_enter Tryz.func15, Tryz.ntmps15
  go_wp2_with fail
  generalize (((w.alloc (.cells #[v1, v2, v3, v4] 27)).alloc (.cells #[.int .i64 R.tracks, rv] 36)).alloc (.cells #[.int .i64 rt, .slice at' th.length ct] 31)).alloc (.cells #[.int .i64 least, .int .i64 gap] 43) = W0 at *
  refine (load_any R true HRO.out rv g _ (HR.out.later HB0.out)).mono ?_
  rintro e W1 ⟨hb1, ⟨he, rfl⟩ | ⟨he, P, pv, qs, rfl, hp, hqs⟩⟩
  · have HE := Lib.hid (rdErr_roll (S := S) (rt := rt) (th := th) (least := least) (gap := gap) he)
    have HB1 := Lib.hid (below_step HB0.out hb1)
    have he2 : (rollErr R true == 0) = false := by rw [beq_eq_false_iff_ne]; exact he
    clear he hb1
    go_wp2
    go_ret2
    exact ⟨by rw [HE.out]; rfl, HB1.out⟩
  · have HB1 := Lib.hid (below_step HB0.out hb1)
    have L1 := Lib.hid (K1.out.below hb1)
    have L2 := Lib.hid (K2.out.below hb1)
    have L3 := Lib.hid (K3.out.below hb1)
    have L4 := Lib.hid (K4.out.below hb1)
    have x0 : W1.cell? ⟨w.heap.size, 0, none⟩ = some v1 := L1.out.cell 0
    have x1 : W1.cell? ⟨w.heap.size, 1, none⟩ = some v2 := L1.out.cell 1
    have x2 : W1.cell? ⟨w.heap.size, 2, none⟩ = some v3 := L1.out.cell 2
    have x3 : W1.cell? ⟨w.heap.size, 3, none⟩ = some v4 := L1.out.cell 3
    have y0 : W1.cell? ⟨w.heap.size + 1 + 1, 0, none⟩ = some (.int .i64 rt) := L3.out.cell 0
    have y1 : W1.cell? ⟨w.heap.size + 1 + 1, 1, none⟩ = some (.slice at' th.length ct) := L3.out.cell 1
    have HE := Lib.hid he
    clear hb1 he hp hqs
    go_wp2_with fail
    refine (scale_any v1 v2 v3 v4 S HOK.out f rt th _ _ (HT.out.below HB1.out) (HSP.out.later HB1.out) hl (HTH.out.later HB1.out) HCT.out).mono ?_
    rintro e W2 ⟨rfl, hb2⟩
    have HB2 := Lib.hid (below_step HB1.out hb2)
    have M2 := Lib.hid (L2.out.below hb2)
    have M3 := Lib.hid (L3.out.below hb2)
    have M4 := Lib.hid (L4.out.below hb2)
    clear hb2 x0 x1 x2 x3 y0 y1
    by_cases hsc : scE S rt th = 0
    · rw [hsc]
      have HSC := Lib.hid hsc
      have z0 : W2.cell? ⟨w.heap.size + 1, 0, none⟩ = some (.int .i64 R.tracks) := M2.out.cell 0
      have y1 : W2.cell? ⟨w.heap.size + 1 + 1, 1, none⟩ = some (.slice at' th.length ct) := M3.out.cell 1
      have t0 : W2.cell? ⟨w.heap.size + 1 + 1 + 1, 0, none⟩ = some (.int .i64 least) := M4.out.cell 0
      have t1 : W2.cell? ⟨w.heap.size + 1 + 1 + 1, 1, none⟩ = some (.int .i64 gap) := M4.out.cell 1
      clear hsc
      by_cases htr : R.tracks = th.length + 1
      · have htb : (R.tracks == (th.length : Int) + 1) = true := by rw [beq_iff_eq]; exact htr
        by_cases hq : least < 1 ∨ 100 < least ∨ gap < 0 ∨ 100 < gap
        · have HQ := Lib.hid (rdErr_range (S := S) (rt := rt) (least := least) (gap := gap) HE.out HSC.out htr hq)
          have hqb : (((decide (least < 1) || decide (100 < least)) || decide (gap < 0)) || decide (100 < gap)) = true := by simp; omega
          have hq2 : 1 ≤ least → least ≤ 100 → 0 ≤ gap → ¬ gap ≤ 100 := by omega
          clear htr hq
          go_wp2_with fail
          all_goals first
            | (go_ret2; exact ⟨by rw [HQ.out]; rfl, HB2.out⟩)
            | (exfalso; omega)
        · exact absurd (rdErr_good HE.out HSC.out htr hq) HNE.out
      · have HQ := Lib.hid (rdErr_tracks (S := S) (rt := rt) (least := least) (gap := gap) HE.out HSC.out htr)
        have htb : (R.tracks == (th.length : Int) + 1) = false := by rw [beq_eq_false_iff_ne]; exact htr
        clear htr
        go_wp2
        go_ret2
        exact ⟨by rw [HQ.out]; rfl, HB2.out⟩
    · have HQ := Lib.hid (rdErr_scale (least := least) (gap := gap) HE.out hsc)
      have hs2 : (scE S rt th == 0) = false := by rw [beq_eq_false_iff_ne]; exact hsc
      clear hsc
      go_wp2
      go_ret2
      exact ⟨by rw [HQ.out]; rfl, HB2.out⟩
/-- How Read ends. -/
def RdEnds (S : Sp) (R : Ro) (rt : Int) (th : List Th) (least gap : Int) (w : World) (e : Ending) (w' : World) : Prop := ∃ v m c, e = .returned (.tuple #[v, .int .i64 c]) ∧ ReadP S R rt th least gap m c ∧ ARd w' v 5 (m.map evC5) ∧ Below w.heap.size w w'
theorem read_any (v1 v2 v3 v4 : Value) (S : Sp) (ok : SpOk S) (f : Nat → Value) (R : Ro) (rok : RoOk R) (rv : Value) (g : Nat → Value) (rt : Int) (th : List Th) (vt : Value) (least gap : Int) (w : World) (t : Tabs w) (hsp : SpRd w v1 v2 v3 v4 f S) (hr : RoRd w rv g R) (hl : th.length ≤ 1000000) (hth : ARd w vt 3 (th.map thC)) (hct : ∀ a n c, vt = .slice a n c → n ≤ c) :
    Calls Tryz.prog 15 #[.agg #[v1, v2, v3, v4], .agg #[.int .i64 R.tracks, rv], .agg #[.int .i64 rt, vt], .agg #[.int .i64 least, .int .i64 gap]] w (RdEnds S R rt th least gap w) := by
  by_cases hne : rdErr S R rt th least gap = 0
  · obtain ⟨h1, h2, h3, h4, h5, h6, h7⟩ := rdErr_zero hne
    refine (callsIn_wide.1 (read_in 6 (Nat.le_refl _) v1 v2 v3 v4 S ok f R rok rv g rt th vt least gap w t hsp hr hl hth hct h1 h2 h3 ⟨h4, h5⟩ ⟨h6, h7⟩)).mono ?_
    rintro e w' ⟨v, m, c, rfl, hp, ha, hb⟩
    exact ⟨v, m, c, rfl, .inr ⟨hne, hp⟩, ha, hb⟩
  · refine (read_bad v1 v2 v3 v4 S ok f R rok rv g rt th vt least gap w t hsp hr hl hth hct hne).mono ?_
    rintro e w' ⟨rfl, hb⟩
    exact ⟨_, [], _, rfl, .inl ⟨hne, rfl, rfl⟩, ARd.empty _ _, hb⟩
end Go.Proofs.YtppccacfdpkkgaaGreatDoor
