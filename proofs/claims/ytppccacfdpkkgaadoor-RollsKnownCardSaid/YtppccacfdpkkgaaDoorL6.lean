/-
  THE LAW RollsKnown: the walk.
-/
import Derived.Test.YtppccacfdpkkgaaDoorL3
import Derived.Test.YtppccacfdpkkgaaDoorK28
namespace Go.Proofs.YtppccacfdpkkgaaDoor
open Go.RowKit
def want2X : List Ev := [(0, 2, 0, 0, 1), (10, 1, 0, 40, 1), (30, 1, 0, 40, 0), (30, 1, 0, 41, 1), (40, 1, 0, 41, 0), (50, 2, 0, 0, 0)]
def scX : Ro := ⟨6, [[1, 4], [2, 3, 5], [2, 3, 5], [1, 3, 4], [0, 3]]⟩
theorem scan_ex : scanP paX [0, 1, 1, 0, -1] 1 = (scX, 0) := by
  unfold scanP
  rw [pa_err]
  decide +kernel
theorem read_ex2 : rdErr (exS 37) paX 10 thX 1 0 = 0 := by
  unfold rdErr
  rw [pa_err, sc_err]
  decide +kernel
theorem want_ex2 : RdP (evsR paX 10 1 0 thX) want2X 0 := .inr ⟨by decide +kernel, by decide +kernel, by decide +kernel, rfl⟩
theorem read_want2 {m : List Ev} {c : Int} (h : ReadP (exS 37) paX 10 thX 1 0 m c) : m = want2X ∧ c = 0 := h.one (.inr ⟨read_ex2, want_ex2⟩)
def Re2X (w : World) (e : Ending) (w' : World) : Prop := ∃ a c, e = .returned (.tuple #[.slice a 6 c, .int .i64 0]) ∧ ARd w' (.slice a 6 c) 5 (want2X.map evC) ∧ Below w.heap.size w w'
theorem read_x2 (W : World) (t : Tabs W) (b : Nat) (hx : ExMem W b 37) (v : Value) (g : Nat → Value) (hr : RoRd W v g paX) (a2 : Option Addr) (hth : ARd W (.slice a2 3 3) 3 (thX.map thC)) :
    Calls Tryd.prog 20 #[spX b, .agg #[.int .i64 4, v], .agg #[.int .i64 10, .slice a2 3 3], .agg #[.int .i64 1, .int .i64 0]] W (Re2X W) := by
  refine (read_any _ _ _ _ (exS 37) (exS_ok 37) _ paX pa_ok v g 10 thX _ 1 0 W t hx.rd hr (by decide) hth (fun a n c e => by cases e; exact Nat.le_refl _)).mono ?_
  rintro e w' ⟨v', m, c, rfl, hp, ha, hb⟩
  obtain ⟨rfl, rfl⟩ := read_want2 hp
  obtain ⟨a, c', hv⟩ := ha.form
  subst hv
  exact ⟨a, c', rfl, ha, hb⟩
def ScaX (w : World) (e : Ending) (w' : World) : Prop := ∃ a c g, e = .returned (.tuple #[.agg #[.int .i64 6, .slice a 5 c], .int .i64 0]) ∧ RoRd w' (.slice a 5 c) g scX ∧ Below w.heap.size w w'
theorem scan_x (W : World) (v : Value) (g : Nat → Value) (hr : RoRd W v g paX) (a : Option Addr) (hs : ARd W (.slice a 5 5) 1 (([0, 1, 1, 0, -1] : List Int).map iC)) : Calls Tryd.prog 25 #[.agg #[.int .i64 4, v], .slice a 5 5, .int .i64 1] W (ScaX W) := by
  refine (scan_any paX pa_ok v g [0, 1, 1, 0, -1] _ 1 W hr hs).mono ?_
  rw [scan_ex]
  rintro e w' ⟨v', f, rfl, hrd, hb⟩
  obtain ⟨a, c, rfl⟩ := hrd.form
  exact ⟨a, c, f, rfl, hrd, hb⟩
abbrev shB : Obj := .cells #[.int .i64 0, .int .i64 1, .int .i64 1, .int .i64 0, .int .i64 (-1)] 3
abbrev evB : Obj := .cells #[.int .i64 0, .int .i64 2, .int .i64 0, .int .i64 0, .int .i64 1, .int .i64 10, .int .i64 1, .int .i64 0, .int .i64 40, .int .i64 1, .int .i64 30, .int .i64 1, .int .i64 0, .int .i64 40, .int .i64 0, .int .i64 30, .int .i64 1, .int .i64 0, .int .i64 41, .int .i64 1, .int .i64 40, .int .i64 1, .int .i64 0, .int .i64 41, .int .i64 0, .int .i64 50, .int .i64 2, .int .i64 0, .int .i64 0, .int .i64 0] 61
theorem ints_blk (W : World) (l : List Int) (cs : Array Value) (n : Nat) (hc : cs.toList = iCs l) (hn : l.length = n) : ARd (W.alloc (.cells cs 3)) (.slice (some ⟨W.heap.size, 0, none⟩) n n) 1 (l.map iC) := by
  subst hn
  have h := ARd.of_blk (W := W.alloc (.cells cs 3)) (B := W.heap.size) (t := 3) (cs := cs) (k := 1) (rows := l.map iC) (blk_at rfl) (fun r h => by obtain ⟨e, _, rfl⟩ := List.mem_map.1 h; rfl)
  exact h (by rw [hc]; exact iCs_flat l) _ _ (by simp)
set_option maxRecDepth 100000 in
set_option maxHeartbeats 12800000 in
theorem rollsKnown_walk (w : World) (t : Tabs w) : Calls Tryd.prog 6 #[] w fun e w' => e = .returned (.bool true) ∧ Below w.heap.size w w' := by
  have HT := Lib.hid t
  clear t
  go_enter Tryd.func6, Tryd.ntmps6
  go_wp2_with fail
  refine (example_any _).mono ?_
  rintro e w1 ⟨rfl, hx1, hb1⟩
  have k1 := Blk.new w1 43 #[.slice (some ⟨w.heap.size + 3, 0, none⟩) 1 1, .slice (some ⟨w.heap.size + 4, 0, none⟩) 2 2, .slice (some ⟨w.heap.size + 8, 0, none⟩) 3 3, .slice (some ⟨w.heap.size + 9, 0, none⟩) 1 1]
  have hal : Below w1.heap.size w1 (w1.alloc (.cells #[.slice (some ⟨w.heap.size + 3, 0, none⟩) 1 1, .slice (some ⟨w.heap.size + 4, 0, none⟩) 2 2, .slice (some ⟨w.heap.size + 8, 0, none⟩) 3 3, .slice (some ⟨w.heap.size + 9, 0, none⟩) 1 1] 43)) := (Below.refl _ _).alloc (Nat.le_refl _) _
  have HX := Lib.hid (hx1.below hal)
  have HK := Lib.hid k1
  have HB := Lib.hid (below_step hb1 hal)
  clear k1 hal hx1 hb1
  go_upto_region 2 with fail
  obtain ⟨Wb, hWb⟩ : ∃ Wb, (w1.alloc (.cells #[.slice (some ⟨w.heap.size + 3, 0, none⟩) 1 1, .slice (some ⟨w.heap.size + 4, 0, none⟩) 2 2, .slice (some ⟨w.heap.size + 8, 0, none⟩) 3 3, .slice (some ⟨w.heap.size + 9, 0, none⟩) 1 1] 43)) = Wb := ⟨_, rfl⟩
  rw [hWb] at HX HK HB ⊢
  clear hWb
  go_cut [2, 3] from 7 (fun x2 x3 wx => ∃ a c, x2 = .slice a 6 c ∧ x3 = .int .i64 0 ∧ RowKit.Hid (ARd wx (.slice a 6 c) 5 (want2X.map evC)) ∧ RowKit.Hid (Below Wb.heap.size Wb wx))
  case first =>
    have hbd : Below Wb.heap.size Wb Wb.drew := (Below.refl _ _).drew
    obtain ⟨c0, c1, c2, c3⟩ := HK.out.four
    refine wp_plain ?_
    go_region_with (first
      | (go_at_call 23; refine (paper_any Wb.drew).mono ?_; rintro e w2 ⟨rfl, hp2, hb2⟩; have q2 : Below Wb.heap.size Wb w2 := below_step hbd hb2; obtain ⟨d0, d1, d2, d3⟩ := (HK.out.below q2).four)
      | (go_at_call 24; refine (scaleX_any w2).mono ?_; rintro e w3 ⟨rfl, hs3, hb3⟩; have q3 : Below Wb.heap.size Wb w3 := below_step q2 hb3; have hp3 := hp2.later hb3; obtain ⟨f0, f1, f2, f3⟩ := (HK.out.below q3).four)
      | (go_at_call 20; refine (read_x2 w3 (HT.out.below (below_step HB.out q3)) w.heap.size (HX.out.below q3) _ _ hp3 _ hs3).mono ?_; rintro e w4 ⟨a4, n4, rfl, hr4, hb4⟩; have q4 : Below Wb.heap.size Wb w4 := below_step q3 hb4))
    all_goals (go_wp2_with fail; go_meet; exact ⟨_, _, rfl, rfl, Lib.hid hr4, Lib.hid q4⟩)
  case rest =>
    obtain ⟨a4, n4, rfl, rfl, HE4, HB4⟩ := hcut
    have HW4 := Lib.hid (below_step HB.out HB4.out)
    clear HX HK HB
    rename World => Wc
    have hz5 : Below Wc.heap.size Wc (Wc.alloc evB) := (Below.refl _ _).alloc (Nat.le_refl _) _
    have HQ5 := Lib.hid (show ARd (Wc.alloc evB) (.slice (some ⟨Wc.heap.size, 0, none⟩) 6 6) 5 (want2X.map evC) from ARd.of_blk (blk_at rfl) (fun r h => by obtain ⟨e, _, rfl⟩ := List.mem_map.1 h; rfl) rfl _ _ rfl)
    have HE5 := Lib.hid (HE4.out.later hz5)
    have HW5 := Lib.hid (below_step HW4.out hz5)
    clear hz5
    go_wp2_with fail
    refine (paper_any _).mono ?_
    rintro e w6 ⟨rfl, hp6, hb6⟩
    rw [World.size_alloc] at hp6
    have hz7 : Below w6.heap.size w6 (w6.alloc shB) := (Below.refl _ _).alloc (Nat.le_refl _) _
    have HQ7 := Lib.hid ((HQ5.out.later hb6).later hz7)
    have HE7 := Lib.hid ((HE5.out.later hb6).later hz7)
    have HW7 := Lib.hid (below_step (below_step HW5.out hb6) hz7)
    have HP7 := Lib.hid (hp6.later hz7)
    have HS7 := Lib.hid (ints_blk w6 [0, 1, 1, 0, -1] #[.int .i64 0, .int .i64 1, .int .i64 1, .int .i64 0, .int .i64 (-1)] 5 rfl rfl)
    clear hp6 hb6 hz7
    go_wp2_with fail
    refine (scan_x _ _ _ HP7.out _ HS7.out).mono ?_
    rintro e w8 ⟨a8, n8, g8, rfl, hr8, hb8⟩
    have hz9 : Below w8.heap.size w8 (w8.alloc (.cells #[.int .i64 6, .slice a8 5 n8] 24)) := (Below.refl _ _).alloc (Nat.le_refl _) _
    obtain ⟨b1, o1, c1, a1, d1, e1, hl1, hc1, hd1⟩ := hr8.at 1 (by decide)
    cases e1
    obtain ⟨b2, o2, c2, a2, d2, e2, hl2, hc2, hd2⟩ := hr8.at 4 (by decide)
    cases e2
    have HQ9 := Lib.hid ((HQ7.out.later hb8).later hz9)
    have HE9 := Lib.hid ((HE7.out.later hb8).later hz9)
    have HW9 := Lib.hid (below_step (below_step HW7.out hb8) hz9)
    have HK9 := Lib.hid (Blk.new w8 24 #[.int .i64 6, .slice (some ⟨b1, o1, none⟩) 5 n8])
    have HD1 : RowKit.Hid (ARd (w8.alloc (.cells #[.int .i64 6, .slice (some ⟨b1, o1, none⟩) 5 n8] 24)) (.slice a1 3 d1) 1 (([2, 3, 5] : List Int).map iC)) := Lib.hid (hd1.later hz9)
    have HD2 : RowKit.Hid (ARd (w8.alloc (.cells #[.int .i64 6, .slice (some ⟨b1, o1, none⟩) 5 n8] 24)) (.slice a2 2 d2) 1 (([0, 3] : List Int).map iC)) := Lib.hid (hd2.later hz9)
    have HC1 : RowKit.Hid ((w8.alloc (.cells #[.int .i64 6, .slice (some ⟨b1, o1, none⟩) 5 n8] 24)).cell? ⟨b1, o1 + 1, none⟩ = some (.slice a1 3 d1)) := Lib.hid ((hz9.cell (p := ⟨b1, o1 + 1, none⟩) hl1).trans hc1)
    have HC2 : RowKit.Hid ((w8.alloc (.cells #[.int .i64 6, .slice (some ⟨b1, o1, none⟩) 5 n8] 24)).cell? ⟨b1, o1 + 4, none⟩ = some (.slice a2 2 d2)) := Lib.hid ((hz9.cell (p := ⟨b1, o1 + 4, none⟩) hl2).trans hc2)
    clear hr8 hb8 hz9 hc1 hc2 hd1 hd2
    go_wp2_with fail
    obtain ⟨W9, hW9⟩ : ∃ W9, w8.alloc (.cells #[.int .i64 6, .slice (some ⟨b1, o1, none⟩) 5 n8] 24) = W9 := ⟨_, rfl⟩
    rw [hW9] at HQ9 HE9 HW9 HK9 HD1 HD2 HC1 HC2 ⊢
    clear hW9
    refine (same_events want2X _ _ _ HE9.out HQ9.out (by decide)).mono ?_
    rintro e W10 ⟨rfl, n10, hW10⟩
    have hb10 : Below W9.heap.size W9 W10 := by rw [hW10]; exact below_drewN (Below.refl _ _) n10
    have z0 := (HK9.out.below hb10).cell 0
    have z1 := (HK9.out.below hb10).cell 1
    have q1 := (hb10.cell (cell_size HC1.out)).trans HC1.out
    have HZ10 := Lib.hid (HK9.out.below hb10)
    have HQ10 := Lib.hid ((hb10.cell (cell_size HC2.out)).trans HC2.out)
    have HD11 := Lib.hid ((HD1.out.later hb10).later ((Below.refl W10.heap.size W10).alloc (Nat.le_refl _) (.cells #[.int .i64 2, .int .i64 3, .int .i64 5] 3)))
    have HI11 := Lib.hid (ints_blk W10 [2, 3, 5] #[.int .i64 2, .int .i64 3, .int .i64 5] 3 rfl rfl)
    have HD12 := Lib.hid (HD2.out.later hb10)
    have HW10 := Lib.hid (below_step HW9.out hb10)
    clear hb10 hW10 HC1 HC2 HD1 HD2 HE9 HQ9
    go_wp2_with fail
    refine (same_ints [2, 3, 5] _ _ _ HD11.out HI11.out (by decide)).mono ?_
    rintro e W11 ⟨rfl, n11, hW11⟩
    have hb11 : Below W10.heap.size W10 W11 := by rw [hW11]; exact below_drewN ((Below.refl _ _).alloc (Nat.le_refl _) _) n11
    have z2 := (HZ10.out.below hb11).cell 0
    have z3 := (HZ10.out.below hb11).cell 1
    have q2 := (hb11.cell (cell_size HQ10.out)).trans HQ10.out
    have HD13 := Lib.hid ((HD12.out.later hb11).later ((Below.refl W11.heap.size W11).alloc (Nat.le_refl _) (.cells #[.int .i64 0, .int .i64 3] 3)))
    have HI13 := Lib.hid (ints_blk W11 [0, 3] #[.int .i64 0, .int .i64 3] 2 rfl rfl)
    have HW11 := Lib.hid (below_step HW10.out hb11)
    clear hb11 hW11 z0 z1 q1
    go_wp2_with fail
    refine (same_ints [0, 3] _ _ _ HD13.out HI13.out (by decide)).mono ?_
    rintro e W12 ⟨rfl, n12, hW12⟩
    have hb12 : Below W11.heap.size W11 W12 := by rw [hW12]; exact below_drewN ((Below.refl _ _).alloc (Nat.le_refl _) _) n12
    have HW12 := Lib.hid (below_step HW11.out hb12)
    clear hb12 hW12 z2 z3 q2
    go_wp2_with fail
    refine (shown32_any _ (HT.out.below HW12.out)).mono ?_
    rintro e W13 ⟨rfl, hb13⟩
    have HW13 := Lib.hid (below_step HW12.out hb13)
    clear hb13
    go_wp2
    go_ret
    exact ⟨rfl, HW13.out⟩
end Go.Proofs.YtppccacfdpkkgaaDoor
