/-
  CONTRACTS: moved, Scan.
-/
import Derived.Test.YtppccacfdpkkgaaDoorK22
import Derived.Test.YtppccacfdpkkgaaDoorN
import Derived.Test.YtppccacfdpkkgaaDoorKW
import Derived.Deep.RegionLaw
import Derived.Deep.AppendLies
namespace Go.Proofs.YtppccacfdpkkgaaDoor
open Go.RowKit
theorem put_box {W : World} {NB : Nat} {q : Rw} (h : Blk W NB 78 #[.int .u64 q.1, .int .u64 q.2]) (hq : RwOk q) (t : Nat) (ht : t < 128) (hb : Bool) :
    Calls Tryd.prog 34 #[.pointer (some ⟨NB, 0, none⟩), .int .i64 t, .bool hb] W fun e w' => e = .returned (.tuple #[]) ∧ Blk w' NB 78 #[.int .u64 (putR q t hb).1, .int .u64 (putR q t hb).2] ∧ W.grownBy w' (some NB) ∧ w'.heap.size = W.heap.size :=
  (put_any q hq t ht hb NB 0 _ _ W h rfl rfl).mono fun _ _ ⟨h1, h2, h3, h4⟩ => ⟨h1, h2, h3, h4⟩
set_option maxRecDepth 100000 in
set_option maxHeartbeats 3200000 in
theorem moved_any (x : Rw) (hx : RwOk x) (d : Int) (hd1 : -1000 ≤ d) (hd2 : d ≤ 1000) (n : Nat) (hn : n ≤ 128) (w : World) :
    Calls Tryd.prog 48 #[.agg #[.int .u64 x.1, .int .u64 x.2], .int .i64 d, .int .i64 n] w fun e w' => ∃ q, e = .returned (.agg #[.int .u64 q.1, .int .u64 q.2]) ∧ MvQ x d n q ∧ Below w.heap.size w w' := by
  have hb0 : Below w.heap.size w (((w.alloc (.cells #[.int .u64 x.1, .int .u64 x.2] 78)).alloc (.cells #[.int .u64 0, .int .u64 0] 78)).alloc (.cells #[.int .u64 0, .int .u64 0] 78)) := (((Below.refl w.heap.size w).alloc (Nat.le_refl _) _).alloc (by simp) _).alloc (by simp; omega) _
  have k1 := ((Blk.new w 78 #[.int .u64 x.1, .int .u64 x.2]).alloc (.cells #[.int .u64 0, .int .u64 0] 78)).alloc (.cells #[.int .u64 0, .int .u64 0] 78)
  have k2 := (Blk.new (w.alloc (.cells #[.int .u64 x.1, .int .u64 x.2] 78)) 78 #[.int .u64 0, .int .u64 0]).alloc (.cells #[.int .u64 0, .int .u64 0] 78)
  have k3 := Blk.new ((w.alloc (.cells #[.int .u64 x.1, .int .u64 x.2] 78)).alloc (.cells #[.int .u64 0, .int .u64 0] 78)) 78 #[.int .u64 0, .int .u64 0]
  rw [World.size_alloc] at k2
  rw [World.size_alloc, World.size_alloc] at k3
  have HB0 := Lib.hid hb0
  have K1 := Lib.hid k1
  have K2 := Lib.hid k2
  have K3 := Lib.hid k3
  clear hb0 k1 k2 k3
  go_enter Tryd.func48, Tryd.ntmps48
  go_wp2
  generalize ((w.alloc (.cells #[.int .u64 x.1, .int .u64 x.2] 78)).alloc (.cells #[.int .u64 0, .int .u64 0] 78)).alloc (.cells #[.int .u64 0, .int .u64 0] 78) = W0 at *
  go_loopw [10] (fun y wr => ∃ (t : Nat) (q : Rw), t ≤ n ∧ y = .int .i64 t ∧ RowKit.Hid (MvQ x d t q) ∧ RowKit.Hid (Blk wr (w.heap.size + 1 + 1) 78 #[.int .u64 q.1, .int .u64 q.2]) ∧ RowKit.Hid (Blk wr (w.heap.size + 1) 78 #[.int .u64 0, .int .u64 0]) ∧ RowKit.Hid (Blk wr w.heap.size 78 #[.int .u64 x.1, .int .u64 x.2]) ∧ RowKit.Hid (Below w.heap.size w wr)) (fun y _ => n - (intOf y).toNat)
  case atStart => exact ⟨0, rw0, Nat.zero_le _, rfl, Lib.hid (mv_zero x d), by simpa [rw0] using K3, K2, K1, HB0⟩
  clear K1 K2 K3 HB0
  obtain ⟨t, q, ht, rfl, hq, hk3, hk2, hk1, hW⟩ := hrel
  by_cases htl : t < n
  · have htl2 : (t : Int) < (n : Int) := by omega
    obtain ⟨b, hb⟩ : ∃ b, hasB x ((t : Int) - d) = b := ⟨_, rfl⟩
    have HBB := Lib.hid hb
    have HMV := Lib.hid (mv_put hq.out (by omega) hb)
    have x0 := hk1.out.cell 0
    have x1 := hk1.out.cell 1
    clear hb
    go_wp2_with (go_at_call 53; refine (has_any x hx ((t : Int) - d) b HBB.out _).mono ?_; rintro e W1 ⟨rfl, hb1⟩; have HB1 := Lib.hid (below_step hW.out hb1); have L1 := Lib.hid (hk1.out.below hb1); have L2 := Lib.hid (hk2.out.below hb1); have L3 := Lib.hid (hk3.out.below hb1); clear hb1)
    refine (put_box L3.out hq.out.1 t (by omega) b).mono ?_
    rintro e W2 ⟨rfl, hp2, hg2, hs2⟩
    have M1 := Lib.hid (L1.out.kept' hg2 (by omega))
    have M2 := Lib.hid (L2.out.kept' hg2 (by omega))
    have M3 := Lib.hid hp2
    have HB2 := Lib.hid (HB1.out.grown hg2 HB1.out.size (fun j e => by cases e; omega))
    clear hp2 hg2 hs2
    go_wp2
    go_roundw
    case rel => exact ⟨t + 1, _, by omega, by go_num, HMV, M3, M2, M1, HB2⟩
    case measure => simp [intOf]; omega
  · have htl2 : ¬ (t : Int) < (n : Int) := by omega
    have hte : t = n := by omega
    subst hte
    have x0 := hk3.out.cell 0
    have x1 := hk3.out.cell 1
    have r0 := hk2.out.cell 0
    have r1 := hk2.out.cell 1
    have f0 := hk2.out.frozen 0
    have f1 := hk2.out.frozen 1
    have HZ := Lib.hid ((hk2.out.set 0 (.int .u64 q.1)).set 1 (.int .u64 q.2))
    have HB2 := Lib.hid ((hW.out.setCell (p := ⟨w.heap.size + 1, 0, none⟩) (by simp only; omega) (.int .u64 q.1)).setCell (p := ⟨w.heap.size + 1, 1, none⟩) (by simp only; omega) (.int .u64 q.2))
    go_wp2
    have c0 := HZ.out.cell 0
    have c1 := HZ.out.cell 1
    exact bodyPost_ret (v := .agg #[.int .u64 q.1, .int .u64 q.2]) (by simp [results, Tryd.results48, go_sem, c0, c1]) rfl ⟨q.1, q.2, rfl, hq.out, HB2.out⟩
/-- A paper that is filled with rows. -/
structure FlInv (W3 wr : World) (P : Nat) (K : Int) (pv : Value) (qs : List Rw) : Prop where
  p : Blk wr P 74 #[.int .i64 K, pv]
  rows : wr.ownsRow W3.heap.size 78 2 pv qs.length (qs.map rwC).flatten
  pb : W3.heap.size ≤ P
  b : Below W3.heap.size W3 wr
theorem FlInv.below {W3 wr w' : World} {P : Nat} {K : Int} {pv : Value} {qs : List Rw} (h : FlInv W3 wr P K pv qs) (hb : Below wr.heap.size wr w') : FlInv W3 w' P K pv qs := ⟨h.p.below hb, row_later h.rows hb, h.pb, below_step h.b hb⟩
theorem fl_start (W3 : World) (K : Int) : FlInv W3 (W3.alloc (.cells #[.int .i64 K, .slice none 0 0] 74)) W3.heap.size K (.slice none 0 0) [] := ⟨Blk.new W3 _ _, World.ownsRow_nil _ _ _ _, Nat.le_refl _, (Below.refl _ _).alloc (Nat.le_refl _) _⟩
theorem FlInv.app {W3 wr w3 : World} {P : Nat} {K : Int} {pv : Value} {qs : List Rw} (h : FlInv W3 wr P K pv qs) (q : Rw) {o : Obj} {gg m cap : Nat}
    (hg : (wr.alloc o).grownBy w3 pv.ownBlock) (hrow : w3.ownsRow W3.heap.size 78 2 (.slice (some ⟨gg, 0, none⟩) m cap) m ((qs.map rwC).flatten ++ [.int .u64 q.1, .int .u64 q.2])) (hm : m = qs.length + 1) :
    w3.cell? ⟨P, 0, none⟩ = some (.int .i64 K) ∧ w3.cell? ⟨P, 1, none⟩ = some pv ∧ w3.frozen? ⟨P, 1, none⟩ = false ∧ RowKit.Hid (FlInv W3 (w3.setCell ⟨P, 1, none⟩ (.slice (some ⟨gg, 0, none⟩) m cap)) P K (.slice (some ⟨gg, 0, none⟩) m cap) (qs ++ [q])) := by
  have hal : Below wr.heap.size wr (wr.alloc o) := (Below.refl _ _).alloc (Nat.le_refl _) _
  have h0 := h.below hal
  have hp3 := h0.p.grown hg (blk_ne_row h0.p h0.rows (by decide))
  have hS := set_grown w3 P 1 (.slice (some ⟨gg, 0, none⟩) m cap)
  have hb3 : Below W3.heap.size W3 w3 := h0.b.grown hg h0.b.size (fun j e => row_ge h0.rows e)
  refine ⟨hp3.cell 0, hp3.cell 1, hp3.frozen 1, Lib.hid ⟨hp3.set 1 _, ?_, h.pb, hb3.grown hS hb3.size (fun j e => by cases e; exact h.pb)⟩⟩
  rw [List.map_append, List.flatten_append, List.length_append, List.length_singleton, ← hm]
  exact hrow.kept hS (.inr (blk_ne_row hp3 hrow (by decide)))
theorem FlInv.fin {W3 z : World} {P : Nat} {K : Int} {p2 v : Value} {qs : List Rw} {a b : Nat} (hk : Blk z P 74 #[.int .i64 K, p2]) (ho : z.ownsRow W3.heap.size 78 2 v (qs.length + 1) ((qs.map rwC).flatten ++ [.int .u64 a, .int .u64 b])) (hp : W3.heap.size ≤ P) (hb : Below W3.heap.size W3 z) : FlInv W3 (z.setCell ⟨P, 1, none⟩ v) P K v (qs ++ [(a, b)]) := by
  have hS := set_grown z P 1 v
  refine ⟨hk.set 1 _, ?_, hp, hb.grown hS hb.size (fun j e => by cases e; exact hp)⟩
  rw [List.map_append, List.flatten_append, List.length_append, List.length_singleton]
  exact ho.kept hS (.inr (blk_ne_row hk ho (by decide)))
/-- The rows that are scanned so far. -/
structure ScMade (qs : List Rw) (sh : List Int) (sk : Int) (n i : Nat) (qs2 : List Rw) : Prop where
  len : qs2.length = i
  inn : ∀ j (hj : j < sh.length), j < i → -sk ≤ sh[j] ∧ sh[j] ≤ sk
  row : ∀ j (h1 : j < qs2.length) (h2 : j < qs.length) (h3 : j < sh.length), MvQ qs[j] (sk + sh[j]) n qs2[j]
theorem scMade_zero (qs : List Rw) (sh : List Int) (sk : Int) (n : Nat) : ScMade qs sh sk n 0 [] := ⟨rfl, fun j _ h => absurd h (Nat.not_lt_zero j), fun j h => absurd h (Nat.not_lt_zero j)⟩
theorem ScMade.next {qs : List Rw} {sh : List Int} {sk : Int} {n i : Nat} {qs2 : List Rw} (h : ScMade qs sh sk n i qs2) (hi : i < sh.length) (hq : i < qs.length) {s : Int} (hs : sh[i] = s) (h1 : -sk ≤ s ∧ s ≤ sk) {x q : Rw} (hx : qs[i] = x) (hm : MvQ x (sk + s) n q) : ScMade qs sh sk n (i + 1) (qs2 ++ [q]) where
  len := by rw [List.length_append, h.len]; rfl
  inn j hj hlt := by
    by_cases e : j = i
    · subst e; rw [hs]; exact h1
    · exact h.inn j hj (by omega)
  row j h2 h3 h4 := by
    by_cases e : j < qs2.length
    · rw [List.getElem_append_left e]
      exact h.row j e h3 h4
    · have ej : j = i := by rw [List.length_append, List.length_singleton, h.len] at h2; have := h.len; omega
      subst ej
      rw [List.getElem_concat_length, hs, hx]
      · exact hm
      · exact h.len.symm
theorem scanP_roll {R : Ro} {sh : List Int} {sk : Int} (h : rollErr R true ≠ 0) : scanP R sh sk = (⟨0, []⟩, rollErr R true) := by unfold scanP; rw [if_neg h]
theorem scanP_skew {R : Ro} {sh : List Int} {sk : Int} (h : rollErr R true = 0) (h2 : sk < 0 ∨ 10 < sk) : scanP R sh sk = (⟨0, []⟩, 7) := by unfold scanP; rw [if_pos h, if_pos h2]
theorem scanP_len {R : Ro} {sh : List Int} {sk : Int} (h : rollErr R true = 0) (h2 : ¬ (sk < 0 ∨ 10 < sk)) (h3 : sh.length ≠ R.rows.length) : scanP R sh sk = (⟨0, []⟩, 2) := by unfold scanP; rw [if_pos h, if_neg h2, if_pos h3]
theorem scanP_range {R : Ro} {sh : List Int} {sk : Int} (h : rollErr R true = 0) (h2 : ¬ (sk < 0 ∨ 10 < sk)) (h3 : sh.length = R.rows.length) (h4 : (∃ n ∈ sh, n < -sk ∨ sk < n) ∨ 128 < R.tracks + 2 * sk) : scanP R sh sk = (⟨0, []⟩, 7) := by unfold scanP; rw [if_pos h, if_neg h2, if_neg (fun q => q h3), if_pos h4]
theorem scanP_good {R : Ro} {sh : List Int} {sk : Int} (h : rollErr R true = 0) (h2 : ¬ (sk < 0 ∨ 10 < sk)) (h3 : sh.length = R.rows.length) (h4 : ¬ ((∃ n ∈ sh, n < -sk ∨ sk < n) ∨ 128 < R.tracks + 2 * sk)) : scanP R sh sk = (scRo R sh sk, 0) := by unfold scanP; rw [if_pos h, if_neg h2, if_neg (fun q => q h3), if_neg h4]
theorem ScMade.none {qs : List Rw} {sh : List Int} {sk : Int} {n i : Nat} {qs2 : List Rw} (h : ScMade qs sh sk n i qs2) (hi : i = sh.length) : ¬ ∃ n ∈ sh, n < -sk ∨ sk < n := by
  rintro ⟨k, hk, h2⟩
  obtain ⟨j, hj, rfl⟩ := List.getElem_of_mem hk
  have := h.inn j hj (by omega)
  omega
/-- What is told of the rows that are scanned. -/
theorem ScMade.told {R : Ro} {qs : List Rw} {sh : List Int} {sk : Int} {n i : Nat} {qs2 : List Rw} (h : ScMade qs sh sk n i qs2) (hi : i = sh.length) (hg : RollGood R true) (hqs : QsOf qs R) (hl : sh.length = R.rows.length) (hn : (n : Int) = R.tracks + 2 * sk) (h128 : n ≤ 128) : (⟨(n : Int), qs2.map fun q => told (hole q) n⟩ : Ro) = scRo R sh sk := by
  unfold scRo
  rw [hn]
  congr 1
  apply List.ext_getElem
  · rw [List.length_map, List.length_map, List.length_range, h.len]; omega
  · intro j h1 h2
    have hj : j < R.rows.length := by simpa using h2
    have hj2 : j < qs.length := by rw [hqs.len]; exact hj
    have hj3 : j < qs2.length := by rw [h.len]; omega
    rw [List.getElem_map, List.getElem_map, List.getElem_range, getD_at hj, getD_at (by rw [hl]; exact hj)]
    obtain ⟨a, b, _⟩ := good_row hg hj
    have hs := h.inn j (by omega) (by omega)
    exact scan_row (hqs.at' j hj2 hj) a hg.hi b (by omega) (by omega) h128 (h.row j hj3 hj2 (by omega))
set_option maxRecDepth 100000 in
set_option maxHeartbeats 12800000 in
theorem scan_good' (R : Ro) (rok : RoOk R) (rv : Value) (g : Nat → Value) (sh : List Int) (vs : Value) (sk : Int) (w : World) (hr : RoRd w rv g R) (hsh : ARd w vs 1 (sh.map iC))
    (he : rollErr R true = 0) (h1 : 0 ≤ sk) (h2 : sk ≤ 10) (hl : sh.length = R.rows.length) :
    Calls Tryd.prog 25 #[.agg #[.int .i64 R.tracks, rv], vs, .int .i64 sk] w (RoEnds (scanP R sh sk) w) := by
  have hb0 : Below w.heap.size w ((w.alloc (.cells #[.int .i64 R.tracks, rv] 24)).alloc zRoll) := (((Below.refl w.heap.size w).alloc (Nat.le_refl _) _).alloc (by simp) _)
  have k1 := (Blk.new w 24 #[.int .i64 R.tracks, rv]).alloc zRoll
  have k2 := Blk.new (w.alloc (.cells #[.int .i64 R.tracks, rv] 24)) 24 #[.int .i64 0, .slice none 0 0]
  rw [World.size_alloc] at k2
  obtain ⟨sa, sc, hvs⟩ := hsh.intForm
  rw [hl] at hvs
  subst hvs
  have HR := Lib.hid hr
  have HO := Lib.hid rok
  have HG := Lib.hid (rollGood he)
  have HRE := Lib.hid he
  have HSH := Lib.hid hsh
  have HL := Lib.hid hl
  have HB0 := Lib.hid hb0
  have HX0 := Lib.hid k1
  have HY0 := Lib.hid k2
  obtain ⟨av, cv, rfl⟩ := hr.form
  have hn2 := (rollGood he).len
  have ht2 := (rollGood he).lo
  have ht3 := (rollGood he).hi
  clear hr rok hb0 k1 k2 he hsh hl
  go_enter Tryd.func25, Tryd.ntmps25
  go_wp2_with fail
  generalize ((w.alloc (.cells #[.int .i64 R.tracks, .slice av R.rows.length cv] 24)).alloc zRoll) = W0 at *
  refine (load_any R true HO.out _ g _ (HR.out.later HB0.out)).mono ?_
  rintro e W1 ⟨hb1, ⟨hne, rfl⟩ | ⟨he, P, pv, qs, rfl, hp, hqs⟩⟩
  · exact absurd HRE.out hne
  · have HB1 := Lib.hid (below_step HB0.out hb1)
    have HX1 := Lib.hid (HX0.out.below hb1)
    have HY1 := Lib.hid (HY0.out.below hb1)
    have x1 := HX1.out.cell 1
    obtain ⟨pa, pc, rfl⟩ := hp.form
    have HPP := Lib.hid hp
    have HQS := Lib.hid hqs
    have HQL := Lib.hid hqs.len
    have p0 : W1.cell? ⟨P, 0, none⟩ = some (.int .i64 R.tracks) := hp.p.cell 0
    clear hb1 he hp hqs
    go_upto_region 9 with fail
    have HI0 : RowKit.Hid (FlInv W1 (W1.alloc (.cells #[.int .i64 (R.tracks + 2 * sk), .slice none 0 0] 74)) W1.heap.size (R.tracks + 2 * sk) (.slice none 0 0) []) := Lib.hid (fl_start _ _)
    obtain ⟨n, hnk⟩ : ∃ n : Nat, (n : Int) = min (R.tracks + 2 * sk) 128 := ⟨(min (R.tracks + 2 * sk) 128).toNat, by omega⟩
    have hn128 : n ≤ 128 := by omega
    have HNK := Lib.hid hnk
    clear p0 x1 hnk
    go_wp2
    go_loopw [50] (fun y wr => ∃ (i : Nat) (p2 : Value) (qs2 : List Rw), i ≤ R.rows.length ∧ y = .int .i64 i ∧ RowKit.Hid (FlInv W1 wr W1.heap.size (R.tracks + 2 * sk) p2 qs2) ∧ RowKit.Hid (ScMade qs sh sk n i qs2)) (fun y _ => R.rows.length - (intOf y).toNat)
    case atStart => exact ⟨0, _, [], Nat.zero_le _, rfl, HI0, Lib.hid (scMade_zero _ _ _ _)⟩
    clear HI0
    obtain ⟨i, p2, qs2, hi, rfl, hI, hM⟩ := hrel
    by_cases hlt : i < R.rows.length
    · have hi2 : (i : Int) < (R.rows.length : Int) := by omega
      have hil : i < sh.length := by rw [HL.out]; exact hlt
      have hqi : i < qs.length := by rw [HQL.out]; exact hlt
      have hqi2 : (i : Int) < (qs.length : Int) := by omega
      obtain ⟨b, o, c, esv, hbl, hcl⟩ := HSH.out.intAt i hil
      simp only [Value.slice.injEq] at esv
      obtain ⟨rfl, -, rfl⟩ := esv
      have hbw := below_step HB1.out hI.out.b
      obtain ⟨s, hs⟩ : ∃ s, sh[i] = s := ⟨_, rfl⟩
      rw [hs] at hcl
      have s0 := (hbw.cell (p := ⟨b, o + i, none⟩) hbl).trans hcl
      have HS := Lib.hid hs
      have HBW := Lib.hid hbw
      clear hcl hbl hs hbw
      by_cases hin : -sk ≤ s ∧ s ≤ sk
      · obtain ⟨hs1, hs2⟩ := hin
        have hs3 : ¬ s < -sk := by omega
        have hs4 : ¬ sk < s := by omega
        obtain ⟨x, hx⟩ : ∃ x, qs[i] = x := ⟨_, rfl⟩
        have hxo : RwOk x := by rw [← hx]; exact HPP.out.ok _ (List.getElem_mem hqi)
        obtain ⟨PG, pcap, epv, hpb⟩ := HPP.out.b (by omega)
        cases epv
        obtain ⟨r0, r1⟩ := rwB_cells (hpb.below hI.out.b).r hqi
        rw [hx] at r0 r1
        have HX := Lib.hid hx
        have HPB := Lib.hid hpb
        have HMIN := HNK
        have HXO := Lib.hid hxo
        have y1 := (HPP.out.below hI.out.b).p.cell 1
        have c0 := hI.out.p.cell 0
        have c1 := hI.out.p.cell 1
        obtain ⟨j0, hj0, jz0, jz1, jz2⟩ := info_parts row_info
        have hdr : Below wr.heap.size wr wr.drew := (Below.refl _ _).drew
        have hqs2 : qs2.length ≤ 20000 := by have := hM.out.len; omega
        clear hx hxo hpb
        go_wp2_with fail
        have hmxx : Tryd.prog.follows .mixedOrders = true := by kernel_rfl
        refine wp_normal (wp_region_flowJ (fun xX => { tmps := #[.agg #[.int .i64 R.tracks, .slice av R.rows.length cv], .slice (some ⟨b, o, none⟩) R.rows.length sc, .int .i64 sk, .pointer (some ⟨w.heap.size, 0, none⟩), undef, undef, .pointer (some ⟨w.heap.size + 1, 0, none⟩), u7, .pointer (some ⟨P, 0, none⟩), .int .i64 0, .pointer (some ⟨W1.heap.size, 0, none⟩), .int .i64 (i : Int), .int .i64 s, .tuple #[.pointer (some ⟨P, 0, none⟩), .int .i64 0], .agg #[.int .i64 R.tracks, .slice av R.rows.length cv], .tuple #[.pointer (some ⟨P, 0, none⟩), .int .i64 0], .pointer (some ⟨P, 0, none⟩), .int .i64 0, .bool false, .int .i64 0, .bool false, undef, undef, .bool (decide (sk < 0) || decide (10 < sk)), .int .i64 sk, .bool (decide (sk < 0)), .bool (decide (sk < 0)), .int .i64 sk, .bool (decide (10 < sk)), .bool (decide (sk < 0) || decide (10 < sk)), undef, .bool false, .slice (some ⟨b, o, none⟩) R.rows.length sc, .int .i64 (R.rows.length : Int), .pointer (some ⟨w.heap.size, 1, none⟩), .slice av R.rows.length cv, .int .i64 (R.rows.length : Int), .bool false, undef, .pointer (some ⟨P, 0, none⟩), .pointer (some ⟨P, 0, none⟩), .pointer (some ⟨P, 0, none⟩), .int .i64 R.tracks, .int .i64 sk, .int .i64 (2 * sk), .int .i64 (R.tracks + 2 * sk), .agg #[.int .i64 (R.tracks + 2 * sk), .slice none 0 0], .pointer (some ⟨W1.heap.size, 0, none⟩), .slice (some ⟨b, o, none⟩) R.rows.length sc, .int .i64 (R.rows.length : Int), .int .i64 (i : Int), .bool true, .int .i64 (i : Int), .pointer (some ⟨b, o + i, none⟩), .int .i64 s, .int .i64 s, .int .i64 sk, .int .i64 (-sk), .bool false, .bool false, .int .i64 s, .int .i64 sk, .bool false, .bool false, u64, (xX 65), (xX 66), (xX 67), (xX 68), (xX 69), (xX 70), (xX 71), (xX 72), (xX 73), (xX 74), (xX 75), (xX 76), (xX 77), (xX 78), (xX 79), (xX 80), (xX 81), (xX 82), (xX 83), (xX 84), (xX 85), (xX 86), (xX 87), (xX 88), (xX 89), u90, undef, undef, undef, undef, undef, undef, undef, undef], defers := [] }) (fun iI v z => match iI with
          | 0 => v = .pointer (some ⟨W1.heap.size, 0, none⟩)
          | 1 => v = .pointer (some ⟨W1.heap.size, 0, none⟩)
          | 2 => v = .pointer (some ⟨W1.heap.size, 0, none⟩)
          | 3 => v = .pointer (some ⟨W1.heap.size, 1, none⟩)
          | 4 => v = p2
          | 5 => v = .pointer (some ⟨P, 0, none⟩)
          | 6 => v = .pointer (some ⟨P, 0, none⟩)
          | 7 => v = .pointer (some ⟨P, 1, none⟩)
          | 8 => v = .slice (some ⟨PG, 0, none⟩) qs.length pc
          | 9 => v = .int .i64 i
          | 10 => v = .pointer (some ⟨PG, i * 2, none⟩)
          | 11 => v = .agg #[.int .u64 x.1, .int .u64 x.2]
          | 12 => v = .int .i64 sk
          | 13 => v = .int .i64 s
          | 14 => v = .int .i64 (sk + s)
          | 15 => v = .pointer (some ⟨W1.heap.size, 0, none⟩)
          | 16 => v = .pointer (some ⟨W1.heap.size, 0, none⟩)
          | 17 => v = .pointer (some ⟨W1.heap.size, 0, none⟩)
          | 18 => v = .int .i64 (R.tracks + 2 * sk)
          | 19 => v = .int .i64 n
          | 20 => ∃ (qa qb : Nat), v = .agg #[.int .u64 qa, .int .u64 qb] ∧ MvQ x (sk + s) n (qa, qb)
          | 21 => ∃ (bb qa qb : Nat), v = .slice (some ⟨bb, 0, none⟩) 1 1 ∧ MvQ x (sk + s) n (qa, qb) ∧ p2.ownBlock ≠ some bb ∧ z.cell? ⟨bb, 0, none⟩ = some (.int .u64 qa) ∧ z.cell? ⟨bb, 1, none⟩ = some (.int .u64 qb)
          | 22 => ∃ (gg cap qa qb : Nat), v = .slice (some ⟨gg, 0, none⟩) (qs2.length + 1) cap ∧ MvQ x (sk + s) n (qa, qb) ∧ Blk z W1.heap.size 74 #[.int .i64 (R.tracks + 2 * sk), p2] ∧ z.ownsRow W1.heap.size 78 2 (.slice (some ⟨gg, 0, none⟩) (qs2.length + 1) cap) (qs2.length + 1) ((qs2.map rwC).flatten ++ [.int .u64 qa, .int .u64 qb]) ∧ Below W1.heap.size W1 z
          | 23 => v = .pointer (some ⟨W1.heap.size, 0, none⟩)
          | 24 => v = .pointer (some ⟨W1.heap.size, 1, none⟩)
          | 25 => True
          | _ => True) (JA 22 25 wr (fun _ z => ∃ (p3 : Value) (q : Rw), MvQ x (sk + s) n q ∧ FlInv W1 z W1.heap.size (R.tracks + 2 * sk) p3 (qs2 ++ [q]))) (fun n => (#[.agg #[.int .i64 R.tracks, .slice av R.rows.length cv], .slice (some ⟨b, o, none⟩) R.rows.length sc, .int .i64 sk, .pointer (some ⟨w.heap.size, 0, none⟩), undef, undef, .pointer (some ⟨w.heap.size + 1, 0, none⟩), u7, .pointer (some ⟨P, 0, none⟩), .int .i64 0, .pointer (some ⟨W1.heap.size, 0, none⟩), .int .i64 (i : Int), .int .i64 s, .tuple #[.pointer (some ⟨P, 0, none⟩), .int .i64 0], .agg #[.int .i64 R.tracks, .slice av R.rows.length cv], .tuple #[.pointer (some ⟨P, 0, none⟩), .int .i64 0], .pointer (some ⟨P, 0, none⟩), .int .i64 0, .bool false, .int .i64 0, .bool false, undef, undef, .bool (decide (sk < 0) || decide (10 < sk)), .int .i64 sk, .bool (decide (sk < 0)), .bool (decide (sk < 0)), .int .i64 sk, .bool (decide (10 < sk)), .bool (decide (sk < 0) || decide (10 < sk)), undef, .bool false, .slice (some ⟨b, o, none⟩) R.rows.length sc, .int .i64 (R.rows.length : Int), .pointer (some ⟨w.heap.size, 1, none⟩), .slice av R.rows.length cv, .int .i64 (R.rows.length : Int), .bool false, undef, .pointer (some ⟨P, 0, none⟩), .pointer (some ⟨P, 0, none⟩), .pointer (some ⟨P, 0, none⟩), .int .i64 R.tracks, .int .i64 sk, .int .i64 (2 * sk), .int .i64 (R.tracks + 2 * sk), .agg #[.int .i64 (R.tracks + 2 * sk), .slice none 0 0], .pointer (some ⟨W1.heap.size, 0, none⟩), .slice (some ⟨b, o, none⟩) R.rows.length sc, .int .i64 (R.rows.length : Int), .int .i64 (i : Int), .bool true, .int .i64 (i : Int), .pointer (some ⟨b, o + i, none⟩), .int .i64 s, .int .i64 s, .int .i64 sk, .int .i64 (-sk), .bool false, .bool false, .int .i64 s, .int .i64 sk, .bool false, .bool false, u64, u65, u66, u67, u68, u69, u70, u71, u72, u73, u74, u75, u76, u77, u78, u79, u80, u81, u82, u83, u84, u85, u86, u87, u88, u89, u90, undef, undef, undef, undef, undef, undef, undef, undef] : Array Value).getD n undef) rfl hmxx (by kernel_rfl) (by kernel_rfl) (ja_start (of_decide_eq_true (by kernel_rfl))) (fun ℓ ℓ' xX w h hj => ja_cong (of_decide_eq_true (by kernel_rfl)) (of_decide_eq_true (by kernel_rfl)) ℓ ℓ' xX w h hj) ?put ?step ?done)
        case put =>
          intro iI oO dD ho hd xX vV
          match iI, ho with
          | 0, ho => obtain rfl := Option.some.inj (show some _ = some oO from ho); obtain rfl := Option.some.inj (show some _ = some dD from hd); rfl
          | 1, ho => obtain rfl := Option.some.inj (show some _ = some oO from ho); obtain rfl := Option.some.inj (show some _ = some dD from hd); rfl
          | 2, ho => obtain rfl := Option.some.inj (show some _ = some oO from ho); obtain rfl := Option.some.inj (show some _ = some dD from hd); rfl
          | 3, ho => obtain rfl := Option.some.inj (show some _ = some oO from ho); obtain rfl := Option.some.inj (show some _ = some dD from hd); rfl
          | 4, ho => obtain rfl := Option.some.inj (show some _ = some oO from ho); obtain rfl := Option.some.inj (show some _ = some dD from hd); rfl
          | 5, ho => obtain rfl := Option.some.inj (show some _ = some oO from ho); obtain rfl := Option.some.inj (show some _ = some dD from hd); rfl
          | 6, ho => obtain rfl := Option.some.inj (show some _ = some oO from ho); obtain rfl := Option.some.inj (show some _ = some dD from hd); rfl
          | 7, ho => obtain rfl := Option.some.inj (show some _ = some oO from ho); obtain rfl := Option.some.inj (show some _ = some dD from hd); rfl
          | 8, ho => obtain rfl := Option.some.inj (show some _ = some oO from ho); obtain rfl := Option.some.inj (show some _ = some dD from hd); rfl
          | 9, ho => obtain rfl := Option.some.inj (show some _ = some oO from ho); obtain rfl := Option.some.inj (show some _ = some dD from hd); rfl
          | 10, ho => obtain rfl := Option.some.inj (show some _ = some oO from ho); obtain rfl := Option.some.inj (show some _ = some dD from hd); rfl
          | 11, ho => obtain rfl := Option.some.inj (show some _ = some oO from ho); obtain rfl := Option.some.inj (show some _ = some dD from hd); rfl
          | 12, ho => obtain rfl := Option.some.inj (show some _ = some oO from ho); obtain rfl := Option.some.inj (show some _ = some dD from hd); rfl
          | 13, ho => obtain rfl := Option.some.inj (show some _ = some oO from ho); obtain rfl := Option.some.inj (show some _ = some dD from hd); rfl
          | 14, ho => obtain rfl := Option.some.inj (show some _ = some oO from ho); obtain rfl := Option.some.inj (show some _ = some dD from hd); rfl
          | 15, ho => obtain rfl := Option.some.inj (show some _ = some oO from ho); obtain rfl := Option.some.inj (show some _ = some dD from hd); rfl
          | 16, ho => obtain rfl := Option.some.inj (show some _ = some oO from ho); obtain rfl := Option.some.inj (show some _ = some dD from hd); rfl
          | 17, ho => obtain rfl := Option.some.inj (show some _ = some oO from ho); obtain rfl := Option.some.inj (show some _ = some dD from hd); rfl
          | 18, ho => obtain rfl := Option.some.inj (show some _ = some oO from ho); obtain rfl := Option.some.inj (show some _ = some dD from hd); rfl
          | 19, ho => obtain rfl := Option.some.inj (show some _ = some oO from ho); obtain rfl := Option.some.inj (show some _ = some dD from hd); rfl
          | 20, ho => obtain rfl := Option.some.inj (show some _ = some oO from ho); obtain rfl := Option.some.inj (show some _ = some dD from hd); rfl
          | 21, ho => obtain rfl := Option.some.inj (show some _ = some oO from ho); obtain rfl := Option.some.inj (show some _ = some dD from hd); rfl
          | 22, ho => obtain rfl := Option.some.inj (show some _ = some oO from ho); obtain rfl := Option.some.inj (show some _ = some dD from hd); rfl
          | 23, ho => obtain rfl := Option.some.inj (show some _ = some oO from ho); obtain rfl := Option.some.inj (show some _ = some dD from hd); rfl
          | 24, ho => obtain rfl := Option.some.inj (show some _ = some oO from ho); obtain rfl := Option.some.inj (show some _ = some dD from hd); rfl
          | 25, ho => obtain rfl := Option.some.inj (show some _ = some oO from ho); cases hd
          | n + 26, ho => exact absurd (Array.getElem?_eq_some_iff.1 ho).1 (by simp)
        case step =>
          intro iI oO ho ℓ xX z hj hli hup hdl hdep K hK
          match iI, ho with
          | 0, ho =>
            obtain rfl := Option.some.inj (show some _ = some oO from ho)
            have hls : ℓ 25 = false := hup 12 25 (by kernel_rfl)
            have hPl := fun xx w' (hb : Below z.heap.size z w') => ja_plain (i := 0) (x' := xx) hj (by decide) (by decide) hls hb
            clear hdep ho hup
            dsimp only at hK ⊢
            refine wpOp_step rfl (fun K2 hK2 => ?_)
            go_simp
            exact hK2 _ _ (hK _ _ (hPl _ _ (Below.refl _ _)) (fun _ _ _ _ h => h) rfl)
          | 1, ho =>
            obtain rfl := Option.some.inj (show some _ = some oO from ho)
            have hls : ℓ 25 = false := hup 12 25 (by kernel_rfl)
            have hPl := fun xx w' (hb : Below z.heap.size z w') => ja_plain (i := 1) (x' := xx) hj (by decide) (by decide) hls hb
            clear hdep ho hup
            dsimp only at hK ⊢
            refine wpOp_step rfl (fun K2 hK2 => ?_)
            go_simp
            exact hK2 _ _ (hK _ _ (hPl _ _ (Below.refl _ _)) (fun _ _ _ _ h => h) rfl)
          | 2, ho =>
            obtain rfl := Option.some.inj (show some _ = some oO from ho)
            have q1 : xX 66 = .pointer (some ⟨W1.heap.size, 0, none⟩) := hdep 1 (by kernel_rfl) _ _ rfl rfl
            have hls : ℓ 25 = false := hup 12 25 (by kernel_rfl)
            have hPl := fun xx w' (hb : Below z.heap.size z w') => ja_plain (i := 2) (x' := xx) hj (by decide) (by decide) hls hb
            clear hdep ho hup
            dsimp only at hK ⊢
            simp only [q1] at hK ⊢
            refine wpOp_step rfl (fun K2 hK2 => ?_)
            go_simp
            exact hK2 _ _ (hK _ _ (hPl _ _ (Below.refl _ _)) (fun _ _ _ _ h => h) rfl)
          | 3, ho =>
            obtain rfl := Option.some.inj (show some _ = some oO from ho)
            have q2 : xX 67 = .pointer (some ⟨W1.heap.size, 0, none⟩) := hdep 2 (by kernel_rfl) _ _ rfl rfl
            have hls : ℓ 25 = false := hup 12 25 (by kernel_rfl)
            have hPl := fun xx w' (hb : Below z.heap.size z w') => ja_plain (i := 3) (x' := xx) hj (by decide) (by decide) hls hb
            clear hdep ho hup
            dsimp only at hK ⊢
            simp only [q2] at hK ⊢
            refine wpOp_step rfl (fun K2 hK2 => ?_)
            go_simp
            exact hK2 _ _ (hK _ _ (hPl _ _ (Below.refl _ _)) (fun _ _ _ _ h => h) rfl)
          | 4, ho =>
            obtain rfl := Option.some.inj (show some _ = some oO from ho)
            have q3 : xX 68 = .pointer (some ⟨W1.heap.size, 1, none⟩) := hdep 3 (by kernel_rfl) _ _ rfl rfl
            have hls : ℓ 25 = false := hup 12 25 (by kernel_rfl)
            have hPl := fun xx w' (hb : Below z.heap.size z w') => ja_plain (i := 4) (x' := xx) hj (by decide) (by decide) hls hb
            have hz := hj.1 (hup 12 22 (by kernel_rfl))
            have c1 : z.cell? ⟨W1.heap.size, 1, none⟩ = some p2 := (hI.out.below hz).p.cell 1
            clear hdep ho hup
            dsimp only at hK ⊢
            simp only [q3] at hK ⊢
            refine wpOp_step rfl (fun K2 hK2 => ?_)
            go_simp
            exact hK2 _ _ (hK _ _ (hPl _ _ (Below.refl _ _)) (fun _ _ _ _ h => h) rfl)
          | 5, ho =>
            obtain rfl := Option.some.inj (show some _ = some oO from ho)
            have hls : ℓ 25 = false := hup 12 25 (by kernel_rfl)
            have hPl := fun xx w' (hb : Below z.heap.size z w') => ja_plain (i := 5) (x' := xx) hj (by decide) (by decide) hls hb
            clear hdep ho hup
            dsimp only at hK ⊢
            refine wpOp_step rfl (fun K2 hK2 => ?_)
            go_simp
            exact hK2 _ _ (hK _ _ (hPl _ _ (Below.refl _ _)) (fun _ _ _ _ h => h) rfl)
          | 6, ho =>
            obtain rfl := Option.some.inj (show some _ = some oO from ho)
            have q5 : xX 70 = .pointer (some ⟨P, 0, none⟩) := hdep 5 (by kernel_rfl) _ _ rfl rfl
            have hls : ℓ 25 = false := hup 12 25 (by kernel_rfl)
            have hPl := fun xx w' (hb : Below z.heap.size z w') => ja_plain (i := 6) (x' := xx) hj (by decide) (by decide) hls hb
            clear hdep ho hup
            dsimp only at hK ⊢
            simp only [q5] at hK ⊢
            refine wpOp_step rfl (fun K2 hK2 => ?_)
            go_simp
            exact hK2 _ _ (hK _ _ (hPl _ _ (Below.refl _ _)) (fun _ _ _ _ h => h) rfl)
          | 7, ho =>
            obtain rfl := Option.some.inj (show some _ = some oO from ho)
            have q6 : xX 71 = .pointer (some ⟨P, 0, none⟩) := hdep 6 (by kernel_rfl) _ _ rfl rfl
            have hls : ℓ 25 = false := hup 12 25 (by kernel_rfl)
            have hPl := fun xx w' (hb : Below z.heap.size z w') => ja_plain (i := 7) (x' := xx) hj (by decide) (by decide) hls hb
            clear hdep ho hup
            dsimp only at hK ⊢
            simp only [q6] at hK ⊢
            refine wpOp_step rfl (fun K2 hK2 => ?_)
            go_simp
            exact hK2 _ _ (hK _ _ (hPl _ _ (Below.refl _ _)) (fun _ _ _ _ h => h) rfl)
          | 8, ho =>
            obtain rfl := Option.some.inj (show some _ = some oO from ho)
            have q7 : xX 72 = .pointer (some ⟨P, 1, none⟩) := hdep 7 (by kernel_rfl) _ _ rfl rfl
            have hls : ℓ 25 = false := hup 12 25 (by kernel_rfl)
            have hPl := fun xx w' (hb : Below z.heap.size z w') => ja_plain (i := 8) (x' := xx) hj (by decide) (by decide) hls hb
            have hz := hj.1 (hup 12 22 (by kernel_rfl))
            have y1 : z.cell? ⟨P, 1, none⟩ = some (.slice (some ⟨PG, 0, none⟩) qs.length pc) := (HPP.out.below (below_step hI.out.b hz)).p.cell 1
            clear hdep ho hup
            dsimp only at hK ⊢
            simp only [q7] at hK ⊢
            refine wpOp_step rfl (fun K2 hK2 => ?_)
            go_simp
            exact hK2 _ _ (hK _ _ (hPl _ _ (Below.refl _ _)) (fun _ _ _ _ h => h) rfl)
          | 9, ho =>
            obtain rfl := Option.some.inj (show some _ = some oO from ho)
            have hls : ℓ 25 = false := hup 12 25 (by kernel_rfl)
            have hPl := fun xx w' (hb : Below z.heap.size z w') => ja_plain (i := 9) (x' := xx) hj (by decide) (by decide) hls hb
            clear hdep ho hup
            dsimp only at hK ⊢
            refine wpOp_step rfl (fun K2 hK2 => ?_)
            go_simp
            exact hK2 _ _ (hK _ _ (hPl _ _ (Below.refl _ _)) (fun _ _ _ _ h => h) rfl)
          | 10, ho =>
            obtain rfl := Option.some.inj (show some _ = some oO from ho)
            have q8 : xX 73 = .slice (some ⟨PG, 0, none⟩) qs.length pc := hdep 8 (by kernel_rfl) _ _ rfl rfl
            have q9 : xX 74 = .int .i64 i := hdep 9 (by kernel_rfl) _ _ rfl rfl
            have hls : ℓ 25 = false := hup 12 25 (by kernel_rfl)
            have hPl := fun xx w' (hb : Below z.heap.size z w') => ja_plain (i := 10) (x' := xx) hj (by decide) (by decide) hls hb
            clear hdep ho hup
            dsimp only at hK ⊢
            simp only [q8, q9] at hK ⊢
            refine wpOp_step rfl (fun K2 hK2 => ?_)
            go_simp
            exact hK2 _ _ (hK _ _ (hPl _ _ (Below.refl _ _)) (fun _ _ _ _ h => h) rfl)
          | 11, ho =>
            obtain rfl := Option.some.inj (show some _ = some oO from ho)
            have q10 : xX 75 = .pointer (some ⟨PG, i * 2, none⟩) := hdep 10 (by kernel_rfl) _ _ rfl rfl
            have hls : ℓ 25 = false := hup 12 25 (by kernel_rfl)
            have hPl := fun xx w' (hb : Below z.heap.size z w') => ja_plain (i := 11) (x' := xx) hj (by decide) (by decide) hls hb
            have hz := hj.1 (hup 12 22 (by kernel_rfl))
            obtain ⟨r0, r1⟩ := rwB_cells (HPB.out.below (below_step hI.out.b hz)).r hqi
            rw [HX.out] at r0 r1
            clear hdep ho hup
            dsimp only at hK ⊢
            simp only [q10] at hK ⊢
            refine wpOp_step rfl (fun K2 hK2 => ?_)
            go_simp
            exact hK2 _ _ (hK _ _ (hPl _ _ (Below.refl _ _)) (fun _ _ _ _ h => h) rfl)
          | 12, ho =>
            obtain rfl := Option.some.inj (show some _ = some oO from ho)
            have hls : ℓ 25 = false := hup 12 25 (by kernel_rfl)
            have hPl := fun xx w' (hb : Below z.heap.size z w') => ja_plain (i := 12) (x' := xx) hj (by decide) (by decide) hls hb
            clear hdep ho hup
            dsimp only at hK ⊢
            refine wpOp_step rfl (fun K2 hK2 => ?_)
            go_simp
            exact hK2 _ _ (hK _ _ (hPl _ _ (Below.refl _ _)) (fun _ _ _ _ h => h) rfl)
          | 13, ho =>
            obtain rfl := Option.some.inj (show some _ = some oO from ho)
            have hls : ℓ 25 = false := hup 12 25 (by kernel_rfl)
            have hPl := fun xx w' (hb : Below z.heap.size z w') => ja_plain (i := 13) (x' := xx) hj (by decide) (by decide) hls hb
            clear hdep ho hup
            dsimp only at hK ⊢
            refine wpOp_step rfl (fun K2 hK2 => ?_)
            go_simp
            exact hK2 _ _ (hK _ _ (hPl _ _ (Below.refl _ _)) (fun _ _ _ _ h => h) rfl)
          | 14, ho =>
            obtain rfl := Option.some.inj (show some _ = some oO from ho)
            have q12 : xX 77 = .int .i64 sk := hdep 12 (by kernel_rfl) _ _ rfl rfl
            have q13 : xX 78 = .int .i64 s := hdep 13 (by kernel_rfl) _ _ rfl rfl
            have hls : ℓ 25 = false := hup 12 25 (by kernel_rfl)
            have hPl := fun xx w' (hb : Below z.heap.size z w') => ja_plain (i := 14) (x' := xx) hj (by decide) (by decide) hls hb
            have hwr : IntKind.i64.wrap (sk + s) = sk + s := IntWalk.i64_in _ (by omega)
            clear hdep ho hup
            dsimp only at hK ⊢
            simp only [q12, q13] at hK ⊢
            refine wpOp_step rfl (fun K2 hK2 => ?_)
            go_simp
            exact hK2 _ _ (hK _ _ (hPl _ _ (Below.refl _ _)) (fun _ _ _ _ h => h) rfl)
          | 15, ho =>
            obtain rfl := Option.some.inj (show some _ = some oO from ho)
            have hls : ℓ 25 = false := hup 12 25 (by kernel_rfl)
            have hPl := fun xx w' (hb : Below z.heap.size z w') => ja_plain (i := 15) (x' := xx) hj (by decide) (by decide) hls hb
            clear hdep ho hup
            dsimp only at hK ⊢
            refine wpOp_step rfl (fun K2 hK2 => ?_)
            go_simp
            exact hK2 _ _ (hK _ _ (hPl _ _ (Below.refl _ _)) (fun _ _ _ _ h => h) rfl)
          | 16, ho =>
            obtain rfl := Option.some.inj (show some _ = some oO from ho)
            have q15 : xX 80 = .pointer (some ⟨W1.heap.size, 0, none⟩) := hdep 15 (by kernel_rfl) _ _ rfl rfl
            have hls : ℓ 25 = false := hup 12 25 (by kernel_rfl)
            have hPl := fun xx w' (hb : Below z.heap.size z w') => ja_plain (i := 16) (x' := xx) hj (by decide) (by decide) hls hb
            clear hdep ho hup
            dsimp only at hK ⊢
            simp only [q15] at hK ⊢
            refine wpOp_step rfl (fun K2 hK2 => ?_)
            go_simp
            exact hK2 _ _ (hK _ _ (hPl _ _ (Below.refl _ _)) (fun _ _ _ _ h => h) rfl)
          | 17, ho =>
            obtain rfl := Option.some.inj (show some _ = some oO from ho)
            have q16 : xX 81 = .pointer (some ⟨W1.heap.size, 0, none⟩) := hdep 16 (by kernel_rfl) _ _ rfl rfl
            have hls : ℓ 25 = false := hup 12 25 (by kernel_rfl)
            have hPl := fun xx w' (hb : Below z.heap.size z w') => ja_plain (i := 17) (x' := xx) hj (by decide) (by decide) hls hb
            clear hdep ho hup
            dsimp only at hK ⊢
            simp only [q16] at hK ⊢
            refine wpOp_step rfl (fun K2 hK2 => ?_)
            go_simp
            exact hK2 _ _ (hK _ _ (hPl _ _ (Below.refl _ _)) (fun _ _ _ _ h => h) rfl)
          | 18, ho =>
            obtain rfl := Option.some.inj (show some _ = some oO from ho)
            have q17 : xX 82 = .pointer (some ⟨W1.heap.size, 0, none⟩) := hdep 17 (by kernel_rfl) _ _ rfl rfl
            have hls : ℓ 25 = false := hup 12 25 (by kernel_rfl)
            have hPl := fun xx w' (hb : Below z.heap.size z w') => ja_plain (i := 18) (x' := xx) hj (by decide) (by decide) hls hb
            have hz := hj.1 (hup 12 22 (by kernel_rfl))
            have c0 : z.cell? ⟨W1.heap.size, 0, none⟩ = some (.int .i64 (R.tracks + 2 * sk)) := (hI.out.below hz).p.cell 0
            clear hdep ho hup
            dsimp only at hK ⊢
            simp only [q17] at hK ⊢
            refine wpOp_step rfl (fun K2 hK2 => ?_)
            go_simp
            exact hK2 _ _ (hK _ _ (hPl _ _ (Below.refl _ _)) (fun _ _ _ _ h => h) rfl)
          | 19, ho =>
            obtain rfl := Option.some.inj (show some _ = some oO from ho)
            have q18 : xX 83 = .int .i64 (R.tracks + 2 * sk) := hdep 18 (by kernel_rfl) _ _ rfl rfl
            have hls : ℓ 25 = false := hup 12 25 (by kernel_rfl)
            have hPl := fun xx w' (hb : Below z.heap.size z w') => ja_plain (i := 19) (x' := xx) hj (by decide) (by decide) hls hb
            clear hdep ho hup
            dsimp only at hK ⊢
            simp only [q18] at hK ⊢
            refine wpOp_step rfl (fun K2 hK2 => ?_)
            go_simp
            exact hK2 _ _ (hK _ _ (hPl _ _ (Below.refl _ _)) (fun _ _ _ _ h => h) (by rw [HMIN.out]))
          | 20, ho =>
            obtain rfl := Option.some.inj (show some _ = some oO from ho)
            have q11 : xX 76 = .agg #[.int .u64 x.1, .int .u64 x.2] := hdep 11 (by kernel_rfl) _ _ rfl rfl
            have q14 : xX 79 = .int .i64 (sk + s) := hdep 14 (by kernel_rfl) _ _ rfl rfl
            have q19 : xX 84 = .int .i64 n := hdep 19 (by kernel_rfl) _ _ rfl rfl
            have hls : ℓ 25 = false := hup 12 25 (by kernel_rfl)
            have hPl := fun xx w' (hb : Below z.heap.size z w') => ja_plain (i := 20) (x' := xx) hj (by decide) (by decide) hls hb
            clear hdep ho hup
            dsimp only at hK ⊢
            simp only [q11, q14, q19] at hK ⊢
            refine wpOp_step rfl (fun K2 hK2 => ?_)
            go_simp
            refine (moved_any x HXO.out (sk + s) (by omega) (by omega) n hn128 z).mono ?_
            rintro e z1 ⟨q, rfl, hmv, hb⟩
            refine hK2 _ _ (hK _ _ (hPl _ _ hb) ?_ ⟨q.1, q.2, rfl, hmv⟩)
            intro j v' hlj _ h
            match j, h with
            | 0, h => exact h
            | 1, h => exact h
            | 2, h => exact h
            | 3, h => exact h
            | 4, h => exact h
            | 5, h => exact h
            | 6, h => exact h
            | 7, h => exact h
            | 8, h => exact h
            | 9, h => exact h
            | 10, h => exact h
            | 11, h => exact h
            | 12, h => exact h
            | 13, h => exact h
            | 14, h => exact h
            | 15, h => exact h
            | 16, h => exact h
            | 17, h => exact h
            | 18, h => exact h
            | 19, h => exact h
            | 20, h => exact h
            | 21, h => obtain ⟨bb, q1, q2, e, m, ne, c0, c1⟩ := h; exact ⟨bb, q1, q2, e, m, ne, (hb.cell (cell_size c0)).trans c0, (hb.cell (cell_size c1)).trans c1⟩
            | 22, h => obtain ⟨gg, cap, q1, q2, e, m, k, r, bl⟩ := h; exact ⟨gg, cap, q1, q2, e, m, k.below hb, row_later r hb, below_step bl hb⟩
            | 23, h => exact h
            | 24, h => exact h
            | 25, h => exact h
            | _ + 26, _ => trivial
          | 21, ho =>
            obtain rfl := Option.some.inj (show some _ = some oO from ho)
            have h20 : ∃ (qa qb : Nat), xX 85 = .agg #[.int .u64 qa, .int .u64 qb] ∧ MvQ x (sk + s) n (qa, qb) := hdep 20 (by kernel_rfl) _ _ rfl rfl
            obtain ⟨qa, qb, q20, r20⟩ := h20
            have hls : ℓ 25 = false := hup 12 25 (by kernel_rfl)
            have hPl := fun xx w' (hb : Below z.heap.size z w') => ja_plain (i := 21) (x' := xx) hj (by decide) (by decide) hls hb
            have hz := hj.1 (hup 12 22 (by kernel_rfl))
            clear hdep ho hup
            dsimp only at hK ⊢
            simp only [q20] at hK ⊢
            refine wpOp_step rfl (fun K2 hK2 => ?_)
            go_simp
            have hb : Below z.heap.size z (z.alloc (.cells #[.int .u64 qa, .int .u64 qb] 78)) := (Below.refl _ _).alloc (Nat.le_refl _) _
            have hk := Blk.new z 78 #[.int .u64 qa, .int .u64 qb]
            refine hK2 _ _ (hK _ _ (hPl _ _ hb) ?_ ⟨z.heap.size, qa, qb, rfl, r20, fun e => Nat.lt_irrefl _ (own_lt (hI.out.below hz).rows e), hk.cell 0, hk.cell 1⟩)
            intro j v' hlj _ h
            match j, h with
            | 0, h => exact h
            | 1, h => exact h
            | 2, h => exact h
            | 3, h => exact h
            | 4, h => exact h
            | 5, h => exact h
            | 6, h => exact h
            | 7, h => exact h
            | 8, h => exact h
            | 9, h => exact h
            | 10, h => exact h
            | 11, h => exact h
            | 12, h => exact h
            | 13, h => exact h
            | 14, h => exact h
            | 15, h => exact h
            | 16, h => exact h
            | 17, h => exact h
            | 18, h => exact h
            | 19, h => exact h
            | 20, h => exact h
            | 21, h => obtain ⟨bb, q1, q2, e, m, ne, c0, c1⟩ := h; exact ⟨bb, q1, q2, e, m, ne, (hb.cell (cell_size c0)).trans c0, (hb.cell (cell_size c1)).trans c1⟩
            | 22, h => obtain ⟨gg, cap, q1, q2, e, m, k, r, bl⟩ := h; exact ⟨gg, cap, q1, q2, e, m, k.below hb, row_later r hb, below_step bl hb⟩
            | 23, h => exact h
            | 24, h => exact h
            | 25, h => exact h
            | _ + 26, _ => trivial
          | 22, ho =>
            obtain rfl := Option.some.inj (show some _ = some oO from ho)
            have q4 : xX 69 = p2 := hdep 4 (by kernel_rfl) _ _ rfl rfl
            have h21 : ∃ (bb qa qb : Nat), xX 86 = .slice (some ⟨bb, 0, none⟩) 1 1 ∧ MvQ x (sk + s) n (qa, qb) ∧ p2.ownBlock ≠ some bb ∧ z.cell? ⟨bb, 0, none⟩ = some (.int .u64 qa) ∧ z.cell? ⟨bb, 1, none⟩ = some (.int .u64 qb) := hdep 21 (by kernel_rfl) _ _ rfl rfl
            obtain ⟨bb, qa, qb, q21, r21, ne21, c21, d21⟩ := h21
            have hz := hj.1 hli
            have hls : ℓ 25 = false := hup 12 25 (by kernel_rfl)
            clear hdep ho hup
            dsimp only at hK ⊢
            simp only [q4, q21] at hK ⊢
            refine wpOp_step rfl (fun K2 hK2 => ?_)
            refine step_append_lies _ rfl _ _ 72 rfl W1.heap.size 78 j0 _ 2 16 Tryd.underlying72 hj0 jz0 jz1 jz2 rfl (by omega) _ _ _ rfl (hI.out.below hz).rows ⟨bb, 0, none⟩ 1 1 [.int .u64 qa, .int .u64 qb] rfl rfl (fun j u hu => match j, hu with | 0, hu => by cases hu; exact c21 | 1, hu => by cases hu; exact d21 | _ + 2, hu => by cases hu) (by simp [Value.oneCell']) (by omega) (by unfold maxLen; omega) (by omega) (hI.out.below hz).b.size z.heap.size rfl ?_
            intro gg cap w3 hown hgrow hat hlt
            refine hK2 _ _ (hK _ _ (ja_mid (by decide) hls) ?_ ⟨gg, cap, qa, qb, rfl, r21, (hI.out.below hz).p.grown hgrow (blk_ne_row (hI.out.below hz).p (hI.out.below hz).rows (by decide)), hown, (hI.out.below hz).b.grown hgrow (hI.out.below hz).b.size (fun j e => row_ge (hI.out.below hz).rows e)⟩)
            intro j v' hlj _ h
            match j, h with
            | 0, h => exact h
            | 1, h => exact h
            | 2, h => exact h
            | 3, h => exact h
            | 4, h => exact h
            | 5, h => exact h
            | 6, h => exact h
            | 7, h => exact h
            | 8, h => exact h
            | 9, h => exact h
            | 10, h => exact h
            | 11, h => exact h
            | 12, h => exact h
            | 13, h => exact h
            | 14, h => exact h
            | 15, h => exact h
            | 16, h => exact h
            | 17, h => exact h
            | 18, h => exact h
            | 19, h => exact h
            | 20, h => exact h
            | 21, h => obtain ⟨bb, q1, q2, e, m, ne, c0, c1⟩ := h; exact ⟨bb, q1, q2, e, m, ne, hgrow.cell c0 (fun q => ne q.symm), hgrow.cell c1 (fun q => ne q.symm)⟩
            | 22, h => rw [hli] at hlj; cases hlj
            | 23, h => exact h
            | 24, h => exact h
            | 25, h => exact h
            | _ + 26, _ => trivial
          | 23, ho =>
            obtain rfl := Option.some.inj (show some _ = some oO from ho)
            have q0 : xX 65 = .pointer (some ⟨W1.heap.size, 0, none⟩) := hdep 0 (by kernel_rfl) _ _ rfl rfl
            have hls : ℓ 25 = false := hup 12 25 (by kernel_rfl)
            have hPl := fun xx w' (hb : Below z.heap.size z w') => ja_plain (i := 23) (x' := xx) hj (by decide) (by decide) hls hb
            clear hdep ho hup
            dsimp only at hK ⊢
            simp only [q0] at hK ⊢
            refine wpOp_step rfl (fun K2 hK2 => ?_)
            go_simp
            exact hK2 _ _ (hK _ _ (hPl _ _ (Below.refl _ _)) (fun _ _ _ _ h => h) rfl)
          | 24, ho =>
            obtain rfl := Option.some.inj (show some _ = some oO from ho)
            have q23 : xX 88 = .pointer (some ⟨W1.heap.size, 0, none⟩) := hdep 23 (by kernel_rfl) _ _ rfl rfl
            have hls : ℓ 25 = false := hup 12 25 (by kernel_rfl)
            have hPl := fun xx w' (hb : Below z.heap.size z w') => ja_plain (i := 24) (x' := xx) hj (by decide) (by decide) hls hb
            clear hdep ho hup
            dsimp only at hK ⊢
            simp only [q23] at hK ⊢
            refine wpOp_step rfl (fun K2 hK2 => ?_)
            go_simp
            exact hK2 _ _ (hK _ _ (hPl _ _ (Below.refl _ _)) (fun _ _ _ _ h => h) rfl)
          | 25, ho =>
            obtain rfl := Option.some.inj (show some _ = some oO from ho)
            have h22 : ∃ (gg cap qa qb : Nat), xX 87 = .slice (some ⟨gg, 0, none⟩) (qs2.length + 1) cap ∧ MvQ x (sk + s) n (qa, qb) ∧ Blk z W1.heap.size 74 #[.int .i64 (R.tracks + 2 * sk), p2] ∧ z.ownsRow W1.heap.size 78 2 (.slice (some ⟨gg, 0, none⟩) (qs2.length + 1) cap) (qs2.length + 1) ((qs2.map rwC).flatten ++ [.int .u64 qa, .int .u64 qb]) ∧ Below W1.heap.size W1 z := hdep 22 (by kernel_rfl) _ _ rfl rfl
            obtain ⟨gg, cap, qa, qb, q22, r22, k22, o22, b22⟩ := h22
            have q24 : xX 89 = .pointer (some ⟨W1.heap.size, 1, none⟩) := hdep 24 (by kernel_rfl) _ _ rfl rfl
            have s1 := k22.cell 1
            have s2 := k22.frozen 1
            clear hdep ho hup
            dsimp only at hK ⊢
            simp only [q22, q24] at hK ⊢
            refine wpOp_step rfl (fun K2 hK2 => ?_)
            go_simp
            exact hK2 _ _ (hK undef _ (ja_last (.inr (hdl 1 22 (by kernel_rfl))) ⟨_, (qa, qb), r22, FlInv.fin k22 o22 (Nat.le_refl _) b22⟩) (fun _ _ _ hp _ => absurd hp (lastB_spec (by kernel_rfl) hdl)) trivial)
          | n + 26, ho => exact absurd (Array.getElem?_eq_some_iff.1 ho).1 (by simp)
        case done =>
          intro ℓ xX z hall hj
          have hf := hj.2 (hall 25 (of_decide_eq_true (by kernel_rfl)))
          obtain ⟨p3, q, hmv, hfl⟩ := hf
          have HFL := Lib.hid hfl
          have HMN := Lib.hid (hM.out.next hil hqi HS.out ⟨hs1, hs2⟩ HX.out hmv)
          clear hj hmv hfl
          dsimp only
          go_wp2
          go_roundw
          case rel => exact ⟨i + 1, p3, _, by omega, by go_num, HFL, HMN⟩
          case measure => simp [intOf]; omega
      · have HBAD := Lib.hid (scanP_range (R := R) (sh := sh) (sk := sk) HRE.out (by omega) HL.out (.inl ⟨s, by rw [← HS.out]; exact List.getElem_mem hil, by omega⟩))
        have hin2 : -sk ≤ s → ¬ s ≤ sk := fun h1 h2 => hin ⟨h1, h2⟩
        have HYk := Lib.hid (HY1.out.below hI.out.b)
        have z0 := HYk.out.cell 0
        have z1 := HYk.out.cell 1
        have g0 := HYk.out.frozen 0
        have g1 := HYk.out.frozen 1
        have HZ := Lib.hid ((HYk.out.set 0 (.int .i64 0)).set 1 (.slice none 0 0))
        have HB5 := Lib.hid ((HBW.out.setCell (p := ⟨w.heap.size + 1, 0, none⟩) (by simp only; omega) (.int .i64 0)).setCell (p := ⟨w.heap.size + 1, 1, none⟩) (by simp only; omega) (.slice none 0 0))
        clear hin
        go_wp2_with fail
        all_goals first
          | (exfalso; omega)
          | (have c0 := HZ.out.cell 0; have c1 := HZ.out.cell 1; exact bodyPost_ret (v := .tuple #[.agg #[.int .i64 0, .slice none 0 0], .int .i64 7]) (by simp [results, Tryd.results25, go_sem, c0, c1]) rfl (roEnds_bad HBAD.out HB5.out))
    · have hi2 : ¬ (i : Int) < (R.rows.length : Int) := by omega
      have hie : i = sh.length := by rw [HL.out]; omega
      have HNO := Lib.hid (hM.out.none hie)
      have HBW := Lib.hid (below_step HB1.out hI.out.b)
      have c0 := hI.out.p.cell 0
      have HYk := Lib.hid (HY1.out.below hI.out.b)
      by_cases h128 : 128 < R.tracks + 2 * sk
      · have HBAD := Lib.hid (scanP_range (R := R) (sh := sh) (sk := sk) HRE.out (by omega) HL.out (.inr h128))
        have z0 := HYk.out.cell 0
        have z1 := HYk.out.cell 1
        have g0 := HYk.out.frozen 0
        have g1 := HYk.out.frozen 1
        have HZ := Lib.hid ((HYk.out.set 0 (.int .i64 0)).set 1 (.slice none 0 0))
        have HB5 := Lib.hid ((HBW.out.setCell (p := ⟨w.heap.size + 1, 0, none⟩) (by simp only; omega) (.int .i64 0)).setCell (p := ⟨w.heap.size + 1, 1, none⟩) (by simp only; omega) (.slice none 0 0))
        clear hie
        go_wp2
        have c0 := HZ.out.cell 0
        have c1 := HZ.out.cell 1
        exact bodyPost_ret (v := .tuple #[.agg #[.int .i64 0, .slice none 0 0], .int .i64 7]) (by simp [results, Tryd.results25, go_sem, c0, c1]) rfl (roEnds_bad HBAD.out HB5.out)
      · have hnk : (n : Int) = R.tracks + 2 * sk := by rw [HNK.out]; omega
        have HT := Lib.hid (hM.out.told hie HG.out HQS.out HL.out hnk hn128)
        have HGOOD := Lib.hid (scanP_good (R := R) (sh := sh) (sk := sk) HRE.out (by omega) HL.out (fun h => h.elim HNO.out h128))
        have hql2 : qs2.length ≤ 20000 := by have := hM.out.len; omega
        have HP := Lib.hid (show Pap wr W1.heap.size W1.heap.size (n : Int) p2 qs2 from ⟨by rw [hnk]; exact hI.out.p, hI.out.rows, hI.out.pb, fun q hq => by
          obtain ⟨j, hj, rfl⟩ := List.getElem_of_mem hq
          have := hM.out.len
          exact (hM.out.row j hj (by rw [HQL.out]; omega) (by omega)).1⟩)
        have HNK2 := Lib.hid hnk
        have hlow : w.heap.size + 1 < W1.heap.size := HY1.out.lt
        have hlow2 : w.heap.size + 1 < wr.heap.size := HYk.out.lt
        clear hie hnk
        go_wp2_with fail
        refine (roll_any n hn128 W1.heap.size W1.heap.size p2 qs2 hql2 _ HP.out).mono ?_
        rintro e W7 ⟨rv7, rg, rfl, hrd, hb7, hrk⟩
        obtain ⟨ra, rc, rfl⟩ := hrd.form
        have HZ7 := Lib.hid (HYk.out.below hb7)
        have HW7 := Lib.hid (below_step HBW.out hb7)
        have z0 := HZ7.out.cell 0
        have z1 := HZ7.out.cell 1
        have g0 := HZ7.out.frozen 0
        have g1 := HZ7.out.frozen 1
        have hg8 := (set_grown W7 (w.heap.size + 1) 0 (.int .i64 (n : Int))).trans (set_grown _ (w.heap.size + 1) 1 (.slice ra (qs2.map fun q => told (hole q) n).length rc))
        have HRK := Lib.hid (hrk _ (sameFrom_grown hlow2 hg8))
        have HZ8 := Lib.hid ((HZ7.out.set 0 (.int .i64 (n : Int))).set 1 (.slice ra (qs2.map fun q => told (hole q) n).length rc))
        have HW8 := Lib.hid ((HW7.out.setCell (p := ⟨w.heap.size + 1, 0, none⟩) (by simp only; omega) (.int .i64 (n : Int))).setCell (p := ⟨w.heap.size + 1, 1, none⟩) (by simp only; omega) (.slice ra (qs2.map fun q => told (hole q) n).length rc))
        obtain ⟨rn, hrn⟩ : ∃ rn, (qs2.map fun q => told (hole q) n).length = rn := ⟨_, rfl⟩
        rw [hrn] at HRK HZ8 HW8 ⊢
        rw [HT.out] at HRK
        clear hb7 hrd hrk hrn hg8
        go_wp2
        have c0 := HZ8.out.cell 0
        have c1 := HZ8.out.cell 1
        refine bodyPost_ret (v := .tuple #[.agg #[.int .i64 (n : Int), .slice ra rn rc], .int .i64 0]) (by simp [results, Tryd.results25, go_sem, c0, c1]) rfl ?_
        rw [HGOOD.out]
        exact ⟨_, rg, by rw [HNK2.out]; rfl, HRK.out, HW8.out⟩
set_option maxRecDepth 100000 in
set_option maxHeartbeats 3200000 in
theorem scan_bad (R : Ro) (rok : RoOk R) (rv : Value) (g : Nat → Value) (sh : List Int) (vs : Value) (sk : Int) (w : World) (hr : RoRd w rv g R) (hsh : ARd w vs 1 (sh.map iC))
    (hne : rollErr R true ≠ 0 ∨ (sk < 0 ∨ 10 < sk) ∨ sh.length ≠ R.rows.length) :
    Calls Tryd.prog 25 #[.agg #[.int .i64 R.tracks, rv], vs, .int .i64 sk] w (RoEnds (scanP R sh sk) w) := by
  have hb0 : Below w.heap.size w ((w.alloc (.cells #[.int .i64 R.tracks, rv] 24)).alloc zRoll) := (((Below.refl w.heap.size w).alloc (Nat.le_refl _) _).alloc (by simp) _)
  have k1 := (Blk.new w 24 #[.int .i64 R.tracks, rv]).alloc zRoll
  have k2 := Blk.new (w.alloc (.cells #[.int .i64 R.tracks, rv] 24)) 24 #[.int .i64 0, .slice none 0 0]
  rw [World.size_alloc] at k2
  obtain ⟨sa, sc, rfl⟩ := hsh.intForm
  have HR := Lib.hid hr
  have HO := Lib.hid rok
  have HNE := Lib.hid hne
  have HB0 := Lib.hid hb0
  have HX0 := Lib.hid k1
  have HY0 := Lib.hid k2
  obtain ⟨av, cv, rfl⟩ := hr.form
  have hrl := rok.len
  clear hr rok hb0 k1 k2 hne hsh
  go_enter Tryd.func25, Tryd.ntmps25
  go_wp2_with fail
  generalize ((w.alloc (.cells #[.int .i64 R.tracks, .slice av R.rows.length cv] 24)).alloc zRoll) = W0 at *
  refine (load_any R true HO.out _ g _ (HR.out.later HB0.out)).mono ?_
  rintro e W1 ⟨hb1, hld⟩
  have HB1 := Lib.hid (below_step HB0.out hb1)
  have HX1 := Lib.hid (HX0.out.below hb1)
  have HY1 := Lib.hid (HY0.out.below hb1)
  have x1 := HX1.out.cell 1
  have z0 := HY1.out.cell 0
  have z1 := HY1.out.cell 1
  have g0 := HY1.out.frozen 0
  have g1 := HY1.out.frozen 1
  have HZ := Lib.hid ((HY1.out.set 0 (.int .i64 0)).set 1 (.slice none 0 0))
  have HB5 := Lib.hid ((HB1.out.setCell (p := ⟨w.heap.size + 1, 0, none⟩) (by simp only; omega) (.int .i64 0)).setCell (p := ⟨w.heap.size + 1, 1, none⟩) (by simp only; omega) (.slice none 0 0))
  clear hb1 HB0 HX0 HY0
  rcases hld with ⟨hne, rfl⟩ | ⟨he, P, pv, qs, rfl, hp, hqs⟩
  · have HQ := Lib.hid (scanP_roll (sh := sh) (sk := sk) hne)
    obtain ⟨er, her⟩ : ∃ er, rollErr R true = er := ⟨_, rfl⟩
    rw [her] at hne HQ ⊢
    have he2 : (er == 0) = false := by rw [beq_eq_false_iff_ne]; exact hne
    clear her
    go_wp2
    have c0 := HZ.out.cell 0
    have c1 := HZ.out.cell 1
    exact bodyPost_ret (v := .tuple #[.agg #[.int .i64 0, .slice none 0 0], .int .i64 er]) (by simp [results, Tryd.results25, go_sem, c0, c1]) rfl (roEnds_bad HQ.out HB5.out)
  · have HRE := Lib.hid he
    have hne2 := HNE.out.resolve_left (fun h => h he)
    clear he hp hqs
    by_cases hsk : sk < 0 ∨ 10 < sk
    · have HQ := Lib.hid (scanP_skew (sh := sh) HRE.out hsk)
      have hsk2 : 0 ≤ sk → ¬ sk ≤ 10 := by omega
      clear hsk hne2
      go_wp2_with fail
      all_goals first
        | (exfalso; omega)
        | (have c0 := HZ.out.cell 0; have c1 := HZ.out.cell 1; exact bodyPost_ret (v := .tuple #[.agg #[.int .i64 0, .slice none 0 0], .int .i64 7]) (by simp [results, Tryd.results25, go_sem, c0, c1]) rfl (roEnds_bad HQ.out HB5.out))
    · have hsn := hne2.resolve_left hsk
      have HQ := Lib.hid (scanP_len HRE.out hsk hsn)
      have hs1 : ¬ sk < 0 := fun h => hsk (.inl h)
      have hs2 : ¬ 10 < sk := fun h => hsk (.inr h)
      have hq1 : ((sh.length : Int) == (R.rows.length : Int)) = false := by rw [beq_eq_false_iff_ne]; omega
      have hq2 : ¬ (sh.length : Int) = (R.rows.length : Int) := by omega
      clear hsk hne2 hsn
      go_wp2
      have c0 := HZ.out.cell 0
      have c1 := HZ.out.cell 1
      exact bodyPost_ret (v := .tuple #[.agg #[.int .i64 0, .slice none 0 0], .int .i64 2]) (by simp [results, Tryd.results25, go_sem, c0, c1]) rfl (roEnds_bad HQ.out HB5.out)
theorem scan_any (R : Ro) (rok : RoOk R) (rv : Value) (g : Nat → Value) (sh : List Int) (vs : Value) (sk : Int) (w : World) (hr : RoRd w rv g R) (hsh : ARd w vs 1 (sh.map iC)) :
    Calls Tryd.prog 25 #[.agg #[.int .i64 R.tracks, rv], vs, .int .i64 sk] w (RoEnds (scanP R sh sk) w) := by
  by_cases h1 : rollErr R true = 0
  · by_cases h2 : sk < 0 ∨ 10 < sk
    · exact scan_bad R rok rv g sh vs sk w hr hsh (.inr (.inl h2))
    · by_cases h3 : sh.length = R.rows.length
      · exact scan_good' R rok rv g sh vs sk w hr hsh h1 (by omega) (by omega) h3
      · exact scan_bad R rok rv g sh vs sk w hr hsh (.inr (.inr h3))
  · exact scan_bad R rok rv g sh vs sk w hr hsh (.inl h1)
end Go.Proofs.YtppccacfdpkkgaaDoor
