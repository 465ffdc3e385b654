/-
  CONTRACTS: Join of the reference.
-/
import Derived.Test.YtoclgcneclbfiaaDoorW26
namespace Go.Proofs.YtoclgcneclbfiaaDoor
open Go.RowKit
theorem lineL_snoc : ∀ (gs : List (Bool × List UInt8)) (f : Bool × List UInt8), gs ≠ [] → lineL (gs ++ [f]) = lineL gs ++ 32 :: wr f
  | [], _, h => absurd rfl h
  | [g], f, _ => rfl
  | g :: h :: r, f, _ => by
    have ih := lineL_snoc (h :: r) f (by simp)
    rw [List.cons_append, List.cons_append, lineL, ← List.cons_append, ih, lineL, List.append_assoc]
    rfl
/-- Behind k fields. -/
structure RWrote (fs : List (Bool × ByteArray)) (k : Nat) (p : ByteArray) : Prop where
  text : L p = lineL ((fs.take k).map fL)
  right : ((fs.take k).map fL).all rightF = true
theorem rwrote_start (fs : List (Bool × ByteArray)) : RWrote fs 0 ⟨#[]⟩ := ⟨rfl, rfl⟩
theorem rwrote_step {fs : List (Bool × ByteArray)} {k : Nat} {p y r : ByteArray} (h : RWrote fs k p) (hk : k < fs.length) (hy : L y = wr (fL fs[k])) (hr : rightF (fL fs[k]) = true) (he : L r = if 0 < k then L p ++ 32 :: L y else L p ++ L y) : RWrote fs (k + 1) r where
  text := by
    rw [he, map_take_succ fL fs k hk, h.text, hy]
    by_cases h0 : 0 < k
    · rw [if_pos h0, lineL_snoc]
      intro e
      have := congrArg List.length e
      rw [List.length_map, List.length_take, List.length_nil] at this
      omega
    · have : k = 0 := by omega
      subst this
      rw [if_neg (by omega)]
      rfl
  right := by rw [map_take_succ fL fs k hk, List.all_append, h.right, List.all_cons, hr]; rfl
theorem rwrote_all {fs : List (Bool × ByteArray)} {k : Nat} {p : ByteArray} (h : RWrote fs k p) (hk : fs.length ≤ k) : L p = lineL (fs.map fL) ∧ (fs.map fL).all rightF = true := by
  have h1 := h.text
  have h2 := h.right
  rw [List.take_of_length_le hk] at h1 h2
  exact ⟨h1, h2⟩
theorem rright_is (q : Bool) (s : ByteArray) (b : Bool) (h : rightB q (L s) = b) (w : World) (hs : s.size ≤ maxLen) :
    Calls Tryd.prog 55 #[.agg #[.bool q, .string s]] w fun e w' => e = .returned (.bool b) ∧ Below w.heap.size w w' :=
  (rright_any q s w hs).mono fun _ _ ⟨he, hw⟩ => ⟨by rw [he, h], hw⟩
theorem mk_append (a b : ByteArray) (l m : List UInt8) (ha : L a = l) (hb : L b = m) : L (a ++ b) = l ++ m := by rw [L_append, ha, hb]
set_option maxRecDepth 100000 in
set_option maxHeartbeats 6400000 in
theorem rjoin_mem (fs : List (Bool × ByteArray)) (a : Option Addr) (c : Nat) (w : World) (hn : ¬ 64 < fs.length) (hz : ∀ f ∈ fs, f.2.size ≤ 20000)
    (h1 : ∀ i (h : i < fs.length), ∃ b o, a = some ⟨b, o, none⟩ ∧ w.cell? ⟨b, o + i * 2, none⟩ = some (.bool fs[i].1) ∧ w.cell? ⟨b, o + i * 2 + 1, none⟩ = some (.string fs[i].2)) :
    Calls Tryd.prog 31 #[.slice a fs.length c] w (JoinEnds fs w) := by
  have H1 := Lib.hid h1
  have HZ := Lib.hid hz
  clear h1 hz
  go_enter Tryd.func31, Tryd.ntmps31
  go_wp2
  go_loopw [4, 5] (fun v i wr => ∃ (k : Nat) (p : ByteArray), k ≤ fs.length ∧ i = .int .i64 k ∧ v = .string p ∧ RowKit.Hid (RWrote fs k p) ∧ p.size ≤ 403 * k ∧ Below w.heap.size w wr) (fun _ i _ => fs.length - (intOf i).toNat)
  case atStart => exact ⟨0, ⟨#[]⟩, by omega, rfl, rfl, Lib.hid (rwrote_start fs), by decide, Below.refl _ _⟩
  case round =>
    obtain ⟨k, p, hk, rfl, rfl, hW, hsz, hB⟩ := hrel
    have hBs := hB.size
    by_cases hlt : k < fs.length
    · obtain ⟨b, o, rfl, a1, a2⟩ := H1.out k hlt
      have hxz := HZ.out _ (List.getElem_mem hlt)
      have d1 := (hB.cell (cell_size a1)).trans a1
      have d2 := (hB.cell (cell_size a2)).trans a2
      obtain ⟨q, x, hqx⟩ : ∃ q x, fs[k] = (q, x) := ⟨_, _, rfl⟩
      rw [hqx] at d1 d2 hxz
      dsimp only at d1 d2 hxz
      have HQ := Lib.hid hqx
      have hi1 : (0 : Int) ≤ (k : Int) := Int.natCast_nonneg _
      have hi2 : (k : Int) < (fs.length : Int) := by omega
      clear a1 a2 hqx
      cases hr : rightB q (L x) with
      | false =>
        have CR := Lib.hid (fun W => rright_is q x _ hr W (by unfold maxLen; omega))
        have HN := Lib.hid (join_wrong hn hlt (by rw [HQ.out]; exact hr))
        clear hr
        go_wp2_with (go_at_call 55; refine (CR.out _).mono ?_; rintro e w2 ⟨rfl, hb2⟩)
        go_ret2
        exact joinEnds_none rfl HN.out (below_step hB hb2)
      | true =>
        have CR := Lib.hid (fun W => rright_is q x _ hr W (by unfold maxLen; omega))
        have HR := Lib.hid hr
        clear hr
        go_wp2_with fail
        refine (CR.out _).mono ?_
        rintro e w2 ⟨rfl, hb2⟩
        have hB2 := below_step hB hb2
        replace d1 := (hb2.cell (cell_size d1)).trans d1
        replace d2 := (hb2.cell (cell_size d2)).trans d2
        clear hb2
        cases q with
        | false =>
          have hx2 : x.size ≤ 200 := by
            have hb : bareB (L x) = true := HR.out
            unfold bareB at hb
            simp only [Bool.and_eq_true, decide_eq_true_eq, L_length] at hb
            omega
          have p1 : ¬ 9223372036854775807 < p.size + 1 := by omega
          have p2 : ¬ 9223372036854775807 < p.size + 1 + x.size := by omega
          have p3 : ¬ 9223372036854775807 < p.size + x.size := by omega
          by_cases h0 : 0 < k
          · have HW := Lib.hid (rwrote_step (r := p ++ ⟨#[32]⟩ ++ x) hW.out hlt (y := x) (by rw [HQ.out]; rfl) (by rw [HQ.out]; exact HR.out) (by rw [if_pos h0, L_append, L_append]; simp [L]))
            have hz3 : (p ++ ⟨#[32]⟩ ++ x).size ≤ 403 * (k + 1) := by simp only [ByteArray.size_append]; have : (⟨#[32]⟩ : ByteArray).size = 1 := rfl; omega
            go_wp2
            go_roundw
            case rel => exact ⟨k + 1, p ++ ⟨#[32]⟩ ++ x, by omega, by go_num, rfl, HW, hz3, hB2⟩
            case measure => simp [intOf]; omega
          · have HW := Lib.hid (rwrote_step (r := p ++ x) hW.out hlt (y := x) (by rw [HQ.out]; rfl) (by rw [HQ.out]; exact HR.out) (by rw [if_neg h0, L_append]))
            have hz3 : (p ++ x).size ≤ 403 * (k + 1) := by simp only [ByteArray.size_append]; omega
            go_wp2
            go_roundw
            case rel => exact ⟨k + 1, p ++ x, by omega, by go_num, rfl, HW, hz3, hB2⟩
            case measure => simp [intOf]; omega
        | true =>
          obtain ⟨y, hy⟩ := mkL (quoteL (L x))
          have CQ := Lib.hid (fun W => rquote_yes x y hy W HR.out)
          have hy2 : y.size ≤ 402 := by
            have h3 := textB_le HR.out
            have h4 := dbl_length_le (L x)
            rw [size_of_L hy]
            unfold quoteL
            simp only [List.length_append, List.length_cons, List.length_nil]
            omega
          have p1 : ¬ 9223372036854775807 < p.size + 1 := by omega
          have p2 : ¬ 9223372036854775807 < p.size + 1 + y.size := by omega
          have p3 : ¬ 9223372036854775807 < p.size + y.size := by omega
          by_cases h0 : 0 < k
          · have HW := Lib.hid (rwrote_step (r := p ++ ⟨#[32]⟩ ++ y) hW.out hlt (y := y) (by rw [HQ.out]; exact hy) (by rw [HQ.out]; exact HR.out) (by rw [if_pos h0, L_append, L_append]; simp [L]))
            have hz3 : (p ++ ⟨#[32]⟩ ++ y).size ≤ 403 * (k + 1) := by simp only [ByteArray.size_append]; have : (⟨#[32]⟩ : ByteArray).size = 1 := rfl; omega
            clear hy
            go_wp2_with (go_at_call 19; refine (CQ.out _).mono ?_; rintro e w' ⟨rfl, rfl⟩)
            go_roundw
            case rel => exact ⟨k + 1, p ++ ⟨#[32]⟩ ++ y, by omega, by go_num, rfl, HW, hz3, hB2⟩
            case measure => simp [intOf]; omega
          · have HW := Lib.hid (rwrote_step (r := p ++ y) hW.out hlt (y := y) (by rw [HQ.out]; exact hy) (by rw [HQ.out]; exact HR.out) (by rw [if_neg h0, L_append]))
            have hz3 : (p ++ y).size ≤ 403 * (k + 1) := by simp only [ByteArray.size_append]; omega
            clear hy
            go_wp2_with (go_at_call 19; refine (CQ.out _).mono ?_; rintro e w' ⟨rfl, rfl⟩)
            go_roundw
            case rel => exact ⟨k + 1, p ++ y, by omega, by go_num, rfl, HW, hz3, hB2⟩
            case measure => simp [intOf]; omega
    · obtain ⟨g1, g2⟩ := rwrote_all hW.out (by omega)
      have hn2 : ¬ 64 < (fs.map fL).length := by simpa using hn
      have gj := join_says hn2 g2
      rw [← g1, L_length] at gj
      by_cases h5 : 4096 < p.size
      · rw [if_pos h5] at gj
        have HR2 := Lib.hid gj
        clear gj g1 g2
        go_wp2
        go_ret2
        exact joinEnds_none rfl HR2.out hB
      · rw [if_neg h5] at gj
        have HR2 := Lib.hid gj
        clear gj g1 g2
        go_wp2
        go_ret2
        exact ⟨p, by rw [HR2.out]; rfl, by rw [HR2.out], hB⟩
set_option maxHeartbeats 400000 in
theorem rjoin_any (v : Value) (fs : List (Bool × ByteArray)) (w : World) (h : FRead w v fs) (hz : ∀ f ∈ fs, f.2.size ≤ 20000) :
    Calls Tryd.prog 31 #[v] w (JoinEnds fs w) := by
  by_cases hn : 64 < fs.length
  · obtain ⟨a, c, rfl⟩ := h.form
    have HN := Lib.hid (join_long (fs := fs.map fL) (by simpa using hn))
    go_enter Tryd.func31, Tryd.ntmps31
    go_wp2
    go_ret2
    exact joinEnds_none rfl HN.out (Below.refl _ _)
  · rcases h with ⟨rfl, rfl⟩ | ⟨b, o, cap, rfl, h⟩
    · exact rjoin_mem [] none 0 w hn hz (fun i h => by simp at h)
    · exact rjoin_mem fs _ cap w hn hz (fun i hi => ⟨b, o, rfl, h i hi⟩)
end Go.Proofs.YtoclgcneclbfiaaDoor
