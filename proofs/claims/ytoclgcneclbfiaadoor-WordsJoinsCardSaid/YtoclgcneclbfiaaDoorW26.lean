/-
  CONTRACTS: Join of the program: the walk.
-/
import Derived.Test.YtoclgcneclbfiaaDoorW25
namespace Go.Proofs.YtoclgcneclbfiaaDoor
open Go.RowKit
set_option maxRecDepth 100000 in
set_option maxHeartbeats 6400000 in
theorem join_mem (fs : List (Bool × ByteArray)) (a : Option Addr) (c : Nat) (w : World) (t : Tabs w) (hn : ¬ 64 < fs.length) (hz : ∀ f ∈ fs, f.2.size ≤ 20000)
    (h1 : ∀ i (h : i < fs.length), ∃ b o, a = some ⟨b, o, none⟩ ∧ w.cell? ⟨b, o + i * 2, none⟩ = some (.bool fs[i].1) ∧ w.cell? ⟨b, o + i * 2 + 1, none⟩ = some (.string fs[i].2)) :
    Calls Tryd.prog 30 #[.slice a fs.length c] w (JoinEnds fs w) := by
  obtain ⟨i0, hi, hz0, hz1, hz2⟩ := info_parts info9
  have H1 := Lib.hid h1
  have HZ := Lib.hid hz
  clear h1 hz
  go_enter Tryd.func30, Tryd.ntmps30
  go_wp2
  go_loopw [4, 5, 14] (fun v sz i wr => ∃ (k : Nat) (ps : List ByteArray), k ≤ fs.length ∧ i = .int .i64 k ∧ RowKit.Hid (Wrote fs k ps) ∧ ps.length ≤ k ∧ sz = .int .i64 (szs ps) ∧ szs ps ≤ 403 * k ∧ wr.ownsRow w.heap.size 9 1 v ps.length (ps.map Value.string) ∧ Below w.heap.size w wr) (fun _ _ i _ => fs.length - (intOf i).toNat)
  case atStart => exact ⟨0, [], by omega, rfl, Lib.hid (wrote_start fs), by simp, rfl, by simp [szs], World.ownsRow_nil _ _ _ _, Below.refl _ _⟩
  case round =>
    obtain ⟨k, ps, hk, rfl, hW, hpk, rfl, hsz, hown, hB⟩ := hrel
    have hBs := hB.size
    by_cases hlt : k < fs.length
    · obtain ⟨b, o, rfl, a1, a2⟩ := H1.out k hlt
      have hxz := HZ.out _ (List.getElem_mem hlt)
      have d1 := (hB.cell (cell_size a1)).trans a1
      have d2 := (hB.cell (cell_size a2)).trans a2
      obtain ⟨q, x, hqx⟩ : ∃ q x, fs[k] = (q, x) := ⟨_, _, rfl⟩
      rw [hqx] at d1 d2 hxz
      dsimp only at d1 d2 hxz
      have HQ := Lib.hid hqx
      have hi1 : (0 : Int) ≤ (k : Int) := Int.natCast_nonneg _
      have hi2 : (k : Int) < (fs.length : Int) := by omega
      have CR := Lib.hid (fun W => right_any q x W (by unfold maxLen; omega))
      clear a1 a2 hqx
      cases hr : rightB q (L x) with
      | false =>
        have HN := Lib.hid (join_wrong hn hlt (by rw [HQ.out]; exact hr))
        have HR := Lib.hid hr
        clear hr
        go_wp2_with (go_at_call 53; refine (CR.out _).mono ?_; rw [HR.out]; rintro e w2 ⟨rfl, hb2⟩)
        go_ret2
        exact joinEnds_none rfl HN.out (below_step (hB.alloc hBs _) hb2)
      | true =>
        have HR := Lib.hid hr
        clear hr
        go_wp2_with fail
        refine (CR.out _).mono ?_
        rw [HR.out]
        rintro e w2 ⟨rfl, hb2⟩
        have kx : Blk w2 wr.heap.size 43 #[.bool q, .string x] := (Blk.new wr 43 _).below hb2
        have hb1 : Below wr.heap.size wr w2 := ((Below.refl _ wr).alloc (Nat.le_refl _) _).trans (hb2.mono (by simp))
        have hB2 := below_step hB hb1
        have hown2 := row_later hown hb1
        have t2 := t.below hB2
        have hz2' := hB2.size
        obtain ⟨cA, cB, fA, fB⟩ := kx.two
        clear hb2 hown hb1 d1 d2
        cases q with
        | false =>
          have HW := Lib.hid (wrote_step hW.out hlt (p := x) (by rw [HQ.out]; rfl) (by rw [HQ.out]; exact HR.out) (by
            have hb : bareB (L x) = true := HR.out
            unfold bareB at hb
            simp only [Bool.and_eq_true, decide_eq_true_eq, L_length] at hb
            omega))
          have hx4 := HW.out.small x (by simp)
          have hs3 := Lib.hid (szs_snoc ps x)
          go_wp2_with (at_builtin; refine wpList_append_lies _ rfl _ _ 46 rfl w.heap.size 9 i0 _ 1 16 Tryd.underlying46 hi hz0 hz1 hz2 rfl (by omega) _ ps.length (ps.map Value.string) rfl (hown2.alloc _) ⟨w2.heap.size, 0, none⟩ 1 1 [.string x] rfl rfl (World.news_of_block (cs := #[.string x]) (t := 9) (fr := (0, 0)) (heap_alloc_new w2 _)) (by simp [Value.oneCell']) (by omega) (by unfold maxLen; omega) (by omega) (by simp; omega) (w2.heap.size + 1) (by simp) ?_; intro gg cap w3 hown3 hgrow hat3 hlt3)
          have hB3 := (hB2.alloc hB2.size (.cells #[.string x] 9)).grown hgrow (by simp; omega) (fun j e => row_ge hown2 e)
          go_roundw
          case rel => exact ⟨k + 1, ps ++ [x], by omega, by go_num, HW, by simp; omega, by rw [hs3.out]; go_num, by rw [hs3.out]; omega, by simpa using hown3, hB3⟩
          case measure => simp [intOf]; omega
        | true =>
          obtain ⟨y, hy⟩ := mkL (quoteL (L x))
          have CQ := Lib.hid (fun W t => quote_yes x y hy W t HR.out)
          have HW := Lib.hid (wrote_step hW.out hlt (p := y) (by rw [HQ.out]; exact hy) (by rw [HQ.out]; exact HR.out) (by
            have h3 := textB_le HR.out
            have h4 := dbl_length_le (L x)
            rw [size_of_L hy]
            unfold quoteL
            simp only [List.length_append, List.length_cons, List.length_nil]
            omega))
          have hx4 := HW.out.small y (by simp)
          have hs3 := Lib.hid (szs_snoc ps y)
          clear hy
          go_wp2_with fail
          refine (CQ.out _ t2).mono ?_
          rintro e w4 ⟨rfl, hb4⟩
          have hB4 := below_step hB2 hb4
          have hown4 := row_later hown2 hb4
          have hz4' := hB4.size
          clear hown2 hb4 cA cB fA fB
          go_wp2_with (at_builtin; refine wpList_append_lies _ rfl _ _ 46 rfl w.heap.size 9 i0 _ 1 16 Tryd.underlying46 hi hz0 hz1 hz2 rfl (by omega) _ ps.length (ps.map Value.string) rfl (hown4.alloc _) ⟨w4.heap.size, 0, none⟩ 1 1 [.string y] rfl rfl (World.news_of_block (cs := #[.string y]) (t := 9) (fr := (0, 0)) (heap_alloc_new w4 _)) (by simp [Value.oneCell']) (by omega) (by unfold maxLen; omega) (by omega) (by simp; omega) (w4.heap.size + 1) (by simp) ?_; intro gg cap w3 hown3 hgrow hat3 hlt3)
          have hB3 := (hB4.alloc hB4.size (.cells #[.string y] 9)).grown hgrow (by simp; omega) (fun j e => row_ge hown4 e)
          go_roundw
          case rel => exact ⟨k + 1, ps ++ [y], by omega, by go_num, HW, by simp; omega, by rw [hs3.out]; go_num, by rw [hs3.out]; omega, by simpa using hown3, hB3⟩
          case measure => simp [intOf]; omega
    · obtain ⟨g1, g2⟩ := wrote_all hW.out (by omega)
      have hn2 : ¬ 64 < (fs.map fL).length := by simpa using hn
      have hread := SRead.of_row hown
      by_cases h5 : 4097 < szs ps
      · have HR2 := Lib.hid (join_full hn2 g2 g1 h5)
        clear g1 g2
        go_wp2
        go_ret2
        exact joinEnds_none rfl HR2.out hB
      · obtain ⟨g3, g4⟩ := join_good hn2 g2 g1 h5
        have HR2 := Lib.hid g3
        have CJ := Lib.hid (fun W (h : SRead W u4 ps) => joinText u4 ps W h g4 (by omega) (fun a c e => by subst e; exact row_cap hown))
        clear g1 g2 g3 g4
        go_wp2_with fail
        refine (CJ.out _ hread).mono ?_
        rintro e w5 ⟨y, rfl, hy, hb5⟩
        have HY := Lib.hid hy
        clear hy
        go_wp2
        go_ret2
        exact ⟨y, by rw [HR2.out]; rfl, by rw [HR2.out]; exact HY.out, below_step hB hb5⟩
set_option maxHeartbeats 400000 in
theorem join_toolong (a : Option Addr) (c : Nat) (fs : List (Bool × ByteArray)) (w : World) (hn : 64 < fs.length) : Calls Tryd.prog 30 #[.slice a fs.length c] w (JoinEnds fs w) := by
  have HN := Lib.hid (join_long (fs := fs.map fL) (by simpa using hn))
  go_enter Tryd.func30, Tryd.ntmps30
  go_wp2
  go_ret2
  exact joinEnds_none rfl HN.out (Below.refl _ _)
theorem join_any (v : Value) (fs : List (Bool × ByteArray)) (w : World) (t : Tabs w) (h : FRead w v fs) (hz : ∀ f ∈ fs, f.2.size ≤ 20000) :
    Calls Tryd.prog 30 #[v] w (JoinEnds fs w) := by
  by_cases hn : 64 < fs.length
  · obtain ⟨a, c, rfl⟩ := h.form
    exact join_toolong a c fs w hn
  · rcases h with ⟨rfl, rfl⟩ | ⟨b, o, cap, rfl, h⟩
    · exact join_mem [] none 0 w t hn hz (fun i h => by simp at h)
    · exact join_mem fs _ cap w t hn hz (fun i hi => ⟨b, o, rfl, h i hi⟩)
end Go.Proofs.YtoclgcneclbfiaaDoor
