/-
  CONTRACTS: Make, of a recording and a scale without error, all of whose things are on the scale.
-/
import Derived.Test.YtppccacfdpkkgaaGreatDoorK14
import Derived.Test.YtppccacfdpkkgaaGreatDoorK5
import Derived.Test.YtppccacfdpkkgaaGreatDoorH
namespace Go.Proofs.YtppccacfdpkkgaaGreatDoor
open Go.RowKit
/-- What a recording without error says of its events. -/
structure RecOk (S : Sp) (l : List Ev) : Prop where
  sp : (checkP S).2 = 0
  len : l.length ≤ 20000
  at' : ∀ i (hi : i < l.length), ¬ (l[i].1 < tickB l i ∨ 100000000 < l[i].1) ∧ evE S l[i] = 0
theorem recE_ok {S : Sp} {l : List Ev} (h : (recE S l).2 = 0) : RecOk S l := by
  unfold recE at h
  by_cases e0 : (checkP S).2 = 0
  · rw [if_pos e0] at h
    by_cases e1 : 20000 < l.length
    · rw [if_pos e1] at h; cases h
    · rw [if_neg e1] at h
      cases hf : fst0 (recF S l) l.length with
      | some i =>
        rw [hf] at h
        exact absurd h (fst0_is hf).2.1
      | none =>
        have hn := fst0_none.1 hf
        refine ⟨e0, by omega, fun i hi => ?_⟩
        have := hn i hi
        unfold recF at this
        rw [getD_at hi] at this
        by_cases a : l[i].1 < tickB l i ∨ 100000000 < l[i].1
        · rw [if_pos a] at this; cases this
        · rw [if_neg a] at this
          by_cases b : evE S l[i] = 0
          · exact ⟨a, b⟩
          · rw [if_neg b] at this
            exact absurd this b
  · rw [if_neg e0] at h
    exact absurd h e0
theorem RecOk.tick {S : Sp} {l : List Ev} (h : RecOk S l) : ∀ i (hi : i < l.length), 0 ≤ l[i].1 ∧ l[i].1 ≤ 100000000 ∧ tickB l i ≤ l[i].1
  | 0, hi => by
    have := (h.at' 0 hi).1
    have e : tickB l 0 = 0 := rfl
    rw [e] at this ⊢
    omega
  | i + 1, hi => by
    have := (h.at' (i + 1) hi).1
    have ih := h.tick i (by omega)
    have e := tickB_next (l := l) (i := i) (by omega)
    rw [e] at this ⊢
    omega
theorem RecOk.kind {S : Sp} {l : List Ev} (h : RecOk S l) {x : Ev} (hx : x ∈ l) : 1 ≤ x.2.1 ∧ x.2.1 ≤ 5 := by
  obtain ⟨i, hi, rfl⟩ := List.getElem_of_mem hx
  have := (h.at' i hi).2
  unfold evE at this
  by_cases e : l[i].2.1 < 1 ∨ 5 < l[i].2.1 ∨ (l[i].2.1 ≠ 1 ∧ l[i].2.2.1 ≠ 0) ∨ (l[i].2.1 = 5 ∧ l[i].2.2.2.2 ≠ 0)
  · rw [if_pos e] at this; cases this
  · omega
theorem scOk_kind {S : Sp} {rt : Int} {th : List Th} (h : ScOk S rt th) {x : Th} (hx : x ∈ th) : 1 ≤ x.1 ∧ x.1 ≤ 3 := by
  have := h.good x hx
  unfold thE at this
  by_cases e : x.1 < 1 ∨ 3 < x.1 ∨ (x.1 ≠ 1 ∧ x.2.1 ≠ 0)
  · rw [if_pos e] at this; cases this
  · omega
theorem lastT_le {S : Sp} {l : List Ev} (h : RecOk S l) : ∀ i, i ≤ l.length → -1 ≤ lastT (l.take i) ∧ lastT (l.take i) ≤ 100000000
  | 0, _ => by rw [List.take_zero]; exact ⟨by decide, by decide⟩
  | i + 1, hi => by
    have ih := lastT_le h i (by omega)
    have ht := h.tick i (by omega)
    rw [List.take_succ_eq_append_getElem (by omega), lastT_snoc]
    split <;> omega
theorem ARd.evHead {w : World} {a : Option Addr} {m c : Nat} {l : List Ev} {n : Nat} (h : ARd w (.slice a m c) 5 ((l.drop n).map evC)) (hn : n < l.length) : ∃ b o, a = some ⟨b, o, none⟩ ∧ b < w.heap.size ∧ w.cell? ⟨b, o, none⟩ = some (.int .i64 l[n].1) ∧ w.cell? ⟨b, o + 1, none⟩ = some (.int .i64 l[n].2.1) ∧ w.cell? ⟨b, o + 2, none⟩ = some (.int .i64 l[n].2.2.1) ∧ w.cell? ⟨b, o + 3, none⟩ = some (.int .i64 l[n].2.2.2.1) ∧ w.cell? ⟨b, o + 4, none⟩ = some (.int .i64 l[n].2.2.2.2) ∧
    ∀ c2 m2 a2, m2 = l.length - (n + 1) → (m2 = 0 ∨ a2 = some ⟨b, o + 5, none⟩) → ARd w (.slice a2 m2 c2) 5 ((l.drop (n + 1)).map evC) := by
  obtain ⟨a', c', e, hc⟩ := h
  cases e
  obtain ⟨b, o, ha, hlt, h0⟩ := hc 0 (by simp; omega)
  have hd : ((l.drop n).map evC)[0]'(by simp; omega) = evC l[n] := by rw [List.getElem_map, List.getElem_drop]; rfl
  have h0' : ∀ j u, (evC l[n])[j]? = some u → w.cell? ⟨b, o + j, none⟩ = some u := fun j u hj => by
    have := h0 j u (by rw [hd]; exact hj)
    rwa [Nat.zero_mul, Nat.add_zero] at this
  refine ⟨b, o, ha, hlt, h0' 0 _ rfl, h0' 1 _ rfl, h0' 2 _ rfl, h0' 3 _ rfl, h0' 4 _ rfl, ?_⟩
  rintro c2 m2 a2 hm2 ha2
  refine ⟨a2, c2, by simp [hm2], fun j hj => ?_⟩
  rw [List.length_map, List.length_drop] at hj
  rcases ha2 with h' | rfl
  · omega
  · refine ⟨b, o + 5, rfl, hlt, fun q u hq => ?_⟩
    obtain ⟨b', o', ha', _, h1⟩ := hc (j + 1) (by simp; omega)
    rw [ha] at ha'
    cases ha'
    have := h1 q u (by rw [List.getElem_map, List.getElem_drop] at hq ⊢; rw [← hq]; congr 3; omega)
    rw [show o + 5 + j * 5 + q = o + (j + 1) * 5 + q by omega]
    exact this
/-- What the call knows while it makes the rows: i rows are made, n events are past. -/
structure MkInv (l : List Ev) (rt : Int) (th : List Th) (W3 wr : World) (P NB : Nat) (K : Int) (i n : Nat) (ve pv : Value) (q : Rw) (qs : List Rw) : Prop where
  hn : n ≤ l.length
  ve : ∃ a m c, ve = .slice a m c ∧ m = l.length - n ∧ m ≤ c ∧ ARd W3 (.slice a m c) 5 ((l.drop n).map evC)
  now : Blk wr NB 89 #[.int .u64 q.1, .int .u64 q.2]
  on : OnQ q (onV (l.take n)) th
  p : Blk wr P 86 #[.int .i64 K, pv]
  rows : wr.ownsRow W3.heap.size 89 2 pv qs.length (qs.map rwC).flatten
  nb : NB < W3.heap.size + 2
  pb : W3.heap.size ≤ P
  nbb : W3.heap.size ≤ NB
  far : ∀ g, pv.ownBlock = some g → NB < g
  len : qs.length = i
  made : ∀ j (hj : j < qs.length), OnQ qs[j] (onV (l.take (upN l (j * rt)))) th
  past : ∀ j (hj : j < l.length), j < n → l[j].1 ≤ i * rt
  b : Below W3.heap.size W3 wr
theorem MkInv.below {l : List Ev} {rt : Int} {th : List Th} {W3 wr w' : World} {P NB : Nat} {K : Int} {i n : Nat} {ve pv : Value} {q : Rw} {qs : List Rw} (h : MkInv l rt th W3 wr P NB K i n ve pv q qs) (hb : Below wr.heap.size wr w') : MkInv l rt th W3 w' P NB K i n ve pv q qs :=
  ⟨h.hn, h.ve, h.now.below hb, h.on, h.p.below hb, row_later h.rows hb, h.nb, h.pb, h.nbb, h.far, h.len, h.made, h.past, h.b.trans (hb.mono h.b.size)⟩
/-- An event is past: the row of what is on is another one, maybe; the slice is shorter. -/
theorem MkInv.event {l : List Ev} {rt : Int} {th : List Th} {W3 wr w' : World} {P NB : Nat} {K : Int} {i n : Nat} {ve pv : Value} {q q' : Rw} {qs : List Rw} (h : MkInv l rt th W3 wr P NB K i n ve pv q qs) (hn : n < l.length) (hk : Blk w' NB 89 #[.int .u64 q'.1, .int .u64 q'.2]) (hg : wr.grownBy w' (some NB))
    (ho : OnQ q' (onV (l.take (n + 1))) th) (ht : l[n].1 ≤ i * rt) {a : Option Addr} {m c : Nat} (hm : m = l.length - (n + 1)) (hc : m ≤ c) (hv : ARd W3 (.slice a m c) 5 ((l.drop (n + 1)).map evC)) : MkInv l rt th W3 w' P NB K i (n + 1) (.slice a m c) pv q' qs where
  hn := hn
  ve := ⟨a, m, c, rfl, hm, hc, hv⟩
  now := hk
  on := ho
  p := blk_keep h.p hg (h.p.ne h.now (by decide))
  rows := h.rows.kept hg (by
    cases e : pv.ownBlock with
    | none => exact .inl rfl
    | some g => exact .inr (fun e2 => by have := h.far g e; have := Option.some.inj e2; omega))
  nb := h.nb
  pb := h.pb
  nbb := h.nbb
  far := h.far
  len := h.len
  made := h.made
  past j hj hlt := by
    by_cases e : j = n
    · subst e; exact ht
    · exact h.past j hj (by omega)
  b := h.b.grown hg h.b.size (fun j e => by cases e; exact h.nbb)
theorem row_form {W : World} {base : Nat} {t : TypeId} {k n : Nat} {v : Value} {xs : List Value} (h : W.ownsRow base t k v n xs) : ∃ a c, v = .slice a n c := by
  rcases h.2 with ⟨e, e0⟩ | ⟨g, cap, cur, e, _⟩
  · exact ⟨none, 0, by rw [e, e0]⟩
  · exact ⟨_, _, e⟩
theorem MkInv.app {l : List Ev} {rt : Int} {th : List Th} {W3 wr w3 : World} {P NB : Nat} {K : Int} {i n : Nat} {ve pv : Value} {q : Rw} {qs : List Rw} (h : MkInv l rt th W3 wr P NB K i n ve pv q qs) (hrt : 0 ≤ rt) (hu : upN l (i * rt) = n) {o : Obj} {gg m cap : Nat}
    (hg : (wr.alloc o).grownBy w3 pv.ownBlock) (hrow : w3.ownsRow W3.heap.size 89 2 (.slice (some ⟨gg, 0, none⟩) m cap) m ((qs.map rwC).flatten ++ [.int .u64 q.1, .int .u64 q.2])) (hm : m = qs.length + 1) (hat : pv.ownBlock = some gg ∨ gg = wr.heap.size + 1) :
    w3.cell? ⟨P, 1, none⟩ = some pv ∧ w3.frozen? ⟨P, 1, none⟩ = false ∧ w3.cell? ⟨NB, 0, none⟩ = some (.int .u64 q.1) ∧ w3.cell? ⟨NB, 1, none⟩ = some (.int .u64 q.2) ∧
    RowKit.Hid (MkInv l rt th W3 (w3.setCell ⟨P, 1, none⟩ (.slice (some ⟨gg, 0, none⟩) m cap)) P NB K (i + 1) n ve (.slice (some ⟨gg, 0, none⟩) m cap) q (qs ++ [q])) := by
  have hal : Below wr.heap.size wr (wr.alloc o) := (Below.refl _ _).alloc (Nat.le_refl _) _
  have h0 := h.below hal
  have hp3 := h0.p.grown hg (blk_ne_row h0.p h0.rows (by decide))
  have hn3 := h0.now.grown hg (fun e => by have := h.far _ e; omega)
  have hS := set_grown w3 P 1 (.slice (some ⟨gg, 0, none⟩) m cap)
  have hb3 : Below W3.heap.size W3 w3 := h0.b.grown hg h0.b.size (fun j e => row_ge h0.rows e)
  have hne := hp3.ne hn3 (by decide)
  refine ⟨hp3.cell 1, hp3.frozen 1, hn3.cell 0, hn3.cell 1, Lib.hid ⟨h.hn, h.ve, blk_keep hn3 hS (fun e => hne e.symm), h.on, hp3.set 1 _, ?_, h.nb, h.pb, h.nbb, ?_, by rw [List.length_append, h.len]; rfl, ?_, ?_, hb3.grown hS hb3.size (fun j e => by cases e; exact h.pb)⟩⟩
  · rw [List.map_append, List.flatten_append, List.length_append, List.length_singleton, ← hm]
    exact hrow.kept hS (.inr (blk_ne_row hp3 hrow (by decide)))
  · intro g e
    have e2 : gg = g := by simpa [Value.ownBlock] using e
    subst e2
    rcases hat with e3 | e3
    · exact h.far _ e3
    · have := h.now.lt
      omega
  · intro j hj
    by_cases e : j < qs.length
    · rw [List.getElem_append_left e]
      exact h.made j e
    · have ej : j = qs.length := by rw [List.length_append, List.length_singleton] at hj; omega
      subst ej
      rw [List.getElem_concat_length]
      · rw [h.len, hu]
        exact h.on
      · rfl
  · intro j hj hlt
    have := h.past j hj hlt
    have e : ((i + 1 : Nat) : Int) * rt = i * rt + rt := by push_cast; rw [Int.add_mul, Int.one_mul]
    rw [e]
    omega
theorem put_now {W : World} {NB : Nat} {q : Rw} (h : Blk W NB 89 #[.int .u64 q.1, .int .u64 q.2]) (hq : RwOk q) (t : Int) (h0 : 0 ≤ t) (ht : t < 128) (hb : Bool) :
    Calls Tryz.prog 37 #[.pointer (some ⟨NB, 0, none⟩), .int .i64 t, .bool hb] W fun e w' => e = .returned (.tuple #[]) ∧ Blk w' NB 89 #[.int .u64 (putR q t.toNat hb).1, .int .u64 (putR q t.toNat hb).2] ∧ W.grownBy w' (some NB) ∧ w'.heap.size = W.heap.size := by
  obtain ⟨t, rfl⟩ := Int.eq_ofNat_of_zero_le h0
  rw [Int.toNat_natCast]
  exact (put_any q hq t (by omega) hb NB 0 _ _ W h rfl rfl).mono fun e w' ⟨h1, h2, h3, h4⟩ => ⟨h1, h2, h3, h4⟩
theorem mk_start {l : List Ev} {rt : Int} {th : List Th} {W3 : World} {K : Int} {al : Option Addr} {cl : Nat} (hl : ARd W3 (.slice al l.length cl) 5 (l.map evC)) (hc : l.length ≤ cl) :
    MkInv l rt th W3 ((W3.alloc (.cells #[.int .i64 K, .slice none 0 0] 86)).alloc (.cells #[.int .u64 1, .int .u64 0] 89)) W3.heap.size (W3.heap.size + 1) K 0 0 (.slice al l.length cl) (.slice none 0 0) (1, 0) [] where
  hn := Nat.zero_le _
  ve := ⟨_, _, _, rfl, rfl, hc, by rw [List.drop_zero]; exact hl⟩
  now := by
    have := Blk.new (W3.alloc (.cells #[.int .i64 K, .slice none 0 0] 86)) 89 #[.int .u64 1, .int .u64 0]
    rw [World.size_alloc] at this
    exact this
  on := onQ_first th
  p := (Blk.new W3 _ _).alloc _
  rows := World.ownsRow_nil _ _ _ _
  nb := by omega
  pb := Nat.le_refl _
  nbb := Nat.le_succ _
  far g e := by simp [Value.ownBlock] at e
  len := rfl
  made j hj := absurd hj (Nat.not_lt_zero j)
  past j _ hj := absurd hj (Nat.not_lt_zero j)
  b := below_two W3 _ _
def lenS : Value → Nat
  | .slice _ n _ => n
  | _ => 0
/-- How Make ends on this road. -/
def MkR (R : Ro) (w : World) (e : Ending) (w' : World) : Prop := ∃ v g, e = .returned (.tuple #[.agg #[.int .i64 R.tracks, v], .int .i64 0]) ∧ RoRd w' v g R ∧ Below w.heap.size w w' ∧ ∀ w2, SameFrom w.heap.size w' w2 → RoRd w2 v g R
theorem mkR_of {R R' : Ro} (h : R' = R) {w : World} {e : Ending} {w' : World} (hr : MkR R' w e w') : MkR R w e w' := by rw [← h]; exact hr
theorem make_rows_eq {S : Sp} {l : List Ev} {rt : Int} {th : List Th} (hre : recE S l = (0, 0)) (hsc : scE S rt th = 0) (hin : ∀ x ∈ l, x.2.1 ≤ 3 → thing x ∈ th) (hla : 0 ≤ lastT l) {M : Nat} (hM : (lastT l + rt - 1) / rt + 1 = M) {qs : List Rw} {i : Nat} (hlen : qs.length = i) (hi : i = M) {K : Nat} (hK : K = th.length + 1) (hth : th.length ≤ 127)
    (hmade : ∀ j (hj : j < qs.length), OnQ qs[j] (onV (l.take (upN l (j * rt)))) th) (hM2 : M ≤ 20000) : (⟨(K : Int), qs.map fun q => told (hole q) K⟩ : Ro) = (makeP S l rt th).1 := by
  have h2 : ¬ ∃ x ∈ l, x.2.1 ≤ 3 ∧ thing x ∉ th := by
    rintro ⟨x, h1, h2, h3⟩
    exact h3 (hin x h1 h2)
  unfold makeP
  rw [hre, if_pos rfl, if_pos hsc, if_neg h2, if_neg (by omega), if_neg (by omega)]
  subst hi
  subst hlen
  subst hK
  simp only [hM, Int.toNat_natCast, Ro.mk.injEq]
  refine ⟨by push_cast; rfl, ?_⟩
  apply List.ext_getElem
  · simp
  · intro j h1 h2
    rw [List.getElem_map, List.getElem_map, List.getElem_range]
    exact onQ_told (hmade j (by simpa using h1)) hth
set_option maxRecDepth 100000 in
set_option maxHeartbeats 6400000 in
theorem make_good (v1 v2 v3 v4 : Value) (S : Sp) (ok : SpOk S) (f : Nat → Value) (l : List Ev) (vl : Value) (rt : Int) (th : List Th) (vt : Value) (w : World) (t : Tabs w) (hsp : SpRd w v1 v2 v3 v4 f S) (hlv : ARd w vl 5 (l.map evC)) (hcl : ∀ a n c, vl = .slice a n c → n ≤ c) (hth : ARd w vt 3 (th.map thC)) (hct : ∀ a n c, vt = .slice a n c → n ≤ c) (hev : EvOk S v1 v2 v3 v4 f l)
    (hre : recE S l = (0, 0)) (hsc : scE S rt th = 0) (hin : ∀ x ∈ l, x.2.1 ≤ 3 → thing x ∈ th) (hla : 0 ≤ lastT l) (M : Nat) (hM : (lastT l + rt - 1) / rt + 1 = M) (hM2 : M ≤ 20000) :
    Calls Tryz.prog 9 #[.agg #[v1, v2, v3, v4], vl, .agg #[.int .i64 rt, vt]] w (MkR (makeP S l rt th).1 w) := by
  have RO := Lib.hid (recE_ok (S := S) (l := l) (by rw [hre]))
  have SO := Lib.hid (scE_ok hsc)
  obtain ⟨al, cl, rfl⟩ := hlv.evForm
  obtain ⟨at', ct, rfl⟩ := hth.thForm
  have hcl' : l.length ≤ cl := hcl _ _ _ rfl
  have hl20 := RO.out.len
  have hth1 := SO.out.th1
  have hth2 := SO.out.th2
  have hrt1 := SO.out.rt1
  have hrt2 := SO.out.rt2
  have hb0 : Below w.heap.size w (((w.alloc (.cells #[v1, v2, v3, v4] 27)).alloc (.cells #[.int .i64 rt, .slice at' th.length ct] 31)).alloc (.cells #[.int .i64 0, .slice none 0 0] 36)) := (below_two w _ _).alloc (by simp; omega) _
  have HX := Lib.hid (((Blk.new w 27 #[v1, v2, v3, v4]).alloc (.cells #[.int .i64 rt, .slice at' th.length ct] 31)).alloc (.cells #[.int .i64 0, .slice none 0 0] 36))
  have HY := Lib.hid ((Blk.new (w.alloc (.cells #[v1, v2, v3, v4] 27)) 31 #[.int .i64 rt, .slice at' th.length ct]).alloc (.cells #[.int .i64 0, .slice none 0 0] 36))
  have HZ := Lib.hid (Blk.new ((w.alloc (.cells #[v1, v2, v3, v4] 27)).alloc (.cells #[.int .i64 rt, .slice at' th.length ct] 31)) 36 #[.int .i64 0, .slice none 0 0])
  rw [World.size_alloc] at HY
  rw [World.size_alloc, World.size_alloc] at HZ
  have HB0 := Lib.hid hb0
  have HSP := Lib.hid hsp
  have HT := Lib.hid t
  have HOK := Lib.hid ok
  have HLV := Lib.hid hlv
  have HTH := Lib.hid hth
  have HEV := Lib.hid hev
  have HRE := Lib.hid hre
  have HSC := Lib.hid hsc
  have HIN := Lib.hid hin
  have HCT := Lib.hid hct
  have HM := Lib.hid hM
  clear hb0 hsp t ok hlv hth hev hre hsc hin hct hcl hM
  go_enter Tryz.func9, Tryz.ntmps9
  go_wp2_with fail
  refine (rec_any v1 v2 v3 v4 S HOK.out f l _ _ (HT.out.below HB0.out) (HSP.out.later HB0.out) (by omega) (HLV.out.later HB0.out) HEV.out).mono ?_
  rintro e W1 ⟨rfl, hb1⟩
  rw [HRE.out]
  have HB1 := Lib.hid (below_step HB0.out hb1)
  have HX1 := Lib.hid (HX.out.below hb1)
  have HY1 := Lib.hid (HY.out.below hb1)
  have HZ1 := Lib.hid (HZ.out.below hb1)
  have x0 : W1.cell? ⟨w.heap.size, 0, none⟩ = some v1 := HX1.out.cell 0
  have x1 : W1.cell? ⟨w.heap.size, 1, none⟩ = some v2 := HX1.out.cell 1
  have x2 : W1.cell? ⟨w.heap.size, 2, none⟩ = some v3 := HX1.out.cell 2
  have x3 : W1.cell? ⟨w.heap.size, 3, none⟩ = some v4 := HX1.out.cell 3
  have y0 : W1.cell? ⟨w.heap.size + 1, 0, none⟩ = some (.int .i64 rt) := HY1.out.cell 0
  have y1 : W1.cell? ⟨w.heap.size + 1, 1, none⟩ = some (.slice at' th.length ct) := HY1.out.cell 1
  clear hb1
  go_wp2_with fail
  refine (scale_any v1 v2 v3 v4 S HOK.out f rt th _ _ (HT.out.below HB1.out) (HSP.out.later HB1.out) (by omega) (HTH.out.later HB1.out) HCT.out).mono ?_
  rintro e W2 ⟨rfl, hb2⟩
  rw [HSC.out]
  have HB2 := Lib.hid (below_step HB1.out hb2)
  have HX2 := Lib.hid (HX1.out.below hb2)
  have HY2 := Lib.hid (HY1.out.below hb2)
  have HZ2 := Lib.hid (HZ1.out.below hb2)
  clear hb2 x0 x1 x2 x3 y0 y1
  go_wp2
  go_loopw [11, 39] (fun y x wr => ∃ (i : Nat), i ≤ l.length ∧ y = .int .i64 (lastT (l.take i)) ∧ x = .int .i64 i ∧ RowKit.Hid (Below W2.heap.size W2 wr)) (fun _ x _ => l.length - (intOf x).toNat)
  case atStart => exact ⟨0, by omega, rfl, rfl, Lib.hid (Below.refl _ _)⟩
  obtain ⟨i, hi, rfl, rfl, hW⟩ := hrel
  obtain ⟨lt, hlt'⟩ : ∃ lt, lastT (l.take i) = lt := ⟨_, rfl⟩
  rw [hlt']
  have HLT := Lib.hid hlt'
  clear hlt'
  by_cases hlt : i < l.length
  · have hi2 : (i : Int) < (l.length : Int) := by omega
    have HBW := Lib.hid (below_step HB2.out hW.out)
    obtain ⟨b, o, c', ev', hbl, q0, q1, q2, q3, q4⟩ := (HLV.out.later HBW.out).evAt i hlt
    cases ev'
    have HLN := Lib.hid (show lastT (l.take (i + 1)) = if l[i].2.1 ≤ 3 then l[i].1 else lt by rw [List.take_succ_eq_append_getElem hlt, lastT_snoc, HLT.out])
    obtain ⟨x, hx⟩ : ∃ x, l[i] = x := ⟨_, rfl⟩
    have hxm : x ∈ l := by rw [← hx]; exact List.getElem_mem hlt
    rw [hx] at q0 q1 q2 q3 q4 HLN
    have HXM := Lib.hid hxm
    have HKX := Lib.hid (Blk.new wr 68 #[.int .i64 x.1, .int .i64 x.2.1, .int .i64 x.2.2.1, .int .i64 x.2.2.2.1, .int .i64 x.2.2.2.2])
    have HBX := Lib.hid (show Below wr.heap.size wr (wr.alloc (.cells #[.int .i64 x.1, .int .i64 x.2.1, .int .i64 x.2.2.1, .int .i64 x.2.2.2.1, .int .i64 x.2.2.2.2] 68)) from (Below.refl _ wr).alloc (Nat.le_refl _) _)
    have HWX := Lib.hid (below_step hW.out HBX.out)
    clear hx hxm
    by_cases h3 : 3 < x.2.1
    · have HLN2 : RowKit.Hid (lastT (l.take (i + 1)) = lt) := Lib.hid (by rw [HLN.out, if_neg (by omega)])
      go_wp2
      go_roundw
      case rel => exact ⟨i + 1, by omega, by rw [HLN2.out], by go_num, HWX⟩
      case measure => simp [intOf]; omega
    · have h3' : decide (3 < x.2.1) = false := by rw [decide_eq_false_iff_not]; exact h3
      have HLN2 : RowKit.Hid (lastT (l.take (i + 1)) = x.1) := Lib.hid (by rw [HLN.out, if_pos (by omega)])
      have HCN : RowKit.Hid (decide (thing x ∈ th) = true) := Lib.hid (decide_eq_true (HIN.out x HXM.out (by omega)))
      have y1 : wr.cell? ⟨w.heap.size + 1, 1, none⟩ = some (.slice at' th.length ct) := (HY2.out.below hW.out).cell 1
      have y1' := cell_alloc y1
      clear h3
      go_wp2_with (go_at_call 34; refine (contains_any th (thing x) _ _ (by omega) (HTH.out.later (below_step HB2.out HWX.out)) true HCN.out).mono ?_; rintro e w' ⟨rfl, hb3⟩; have HW3 := Lib.hid (below_step HWX.out hb3); have k0 := (HKX.out.below hb3).cell 0; clear hb3)
      go_roundw
      case rel => exact ⟨i + 1, by omega, by rw [HLN2.out], by go_num, HW3⟩
      case measure => simp [intOf]; omega
  · have hi2 : ¬ ((i : Int) < (l.length : Int)) := by omega
    have hie : i = l.length := by omega
    have hlt2 : lt = lastT l := by rw [← HLT.out, hie, List.take_length]
    have h0lt : 0 ≤ lt := by rw [hlt2]; exact hla
    have hlt8 : lt ≤ 100000000 := by rw [← HLT.out]; exact (lastT_le RO.out i hi).2
    have HBW := Lib.hid (below_step HB2.out hW.out)
    have hm : (lt + rt - 1) / rt + 1 = (M : Int) := by rw [hlt2]; exact HM.out
    have y0 : wr.cell? ⟨w.heap.size + 1, 0, none⟩ = some (.int .i64 rt) := (HY2.out.below hW.out).cell 0
    have y1 : wr.cell? ⟨w.heap.size + 1, 1, none⟩ = some (.slice at' th.length ct) := (HY2.out.below hW.out).cell 1
    have y0' := cell_alloc y0
    obtain ⟨K, hK⟩ : ∃ K : Nat, K = th.length + 1 := ⟨_, rfl⟩
    have hK2 : 1 + (th.length : Int) = (K : Int) := by omega
    have HK := Lib.hid hK
    have HLL := Lib.hid hlt2
    have HHM := Lib.hid hm
    have HLA := Lib.hid hla
    clear hK hlt2 hie hla
    have hq0 : 0 ≤ lt + rt - 1 := by omega
    have hqd := Int.ediv_nonneg hq0 (show 0 ≤ rt by omega)
    have hMd : decide ((20000 : Int) < (M : Int)) = false := by rw [decide_eq_false_iff_not]; omega
    go_wp2
    obtain ⟨W3, rfl⟩ : ∃ W3, W3 = wr := ⟨_, rfl⟩
    have HY3 := Lib.hid (HY2.out.below hW.out)
    have HZ3 := Lib.hid (HZ2.out.below hW.out)
    have HI0 : RowKit.Hid (MkInv l rt th W3 ((W3.alloc (.cells #[.int .i64 K, .slice none 0 0] 86)).alloc (.cells #[.int .u64 1, .int .u64 0] 89)) W3.heap.size (W3.heap.size + 1) K 0 0 (.slice al l.length cl) (.slice none 0 0) (1, 0) []) := Lib.hid (mk_start (HLV.out.later HBW.out) hcl')
    clear y0 y1 y0' hK2 hq0 hqd hm
    go_loopw [1, 85] (fun ve x wr => ∃ (i n : Nat) (pv : Value) (q : Rw) (qs : List Rw), i ≤ M ∧ x = .int .i64 i ∧ RowKit.Hid (MkInv l rt th W3 wr W3.heap.size (W3.heap.size + 1) K i n ve pv q qs)) (fun _ x _ => M - (intOf x).toNat)
    case atStart => exact ⟨0, 0, _, _, _, by omega, rfl, HI0⟩
    clear HI0
    obtain ⟨i, n, pv, q, qs, hiM, rfl, hI⟩ := hrel
    by_cases hltM : i < M
    · have hi2M : (i : Int) < (M : Int) := by omega
      go_wp2
      go_loopw [1] (fun ve wi => ∃ (n : Nat) (q : Rw), RowKit.Hid (MkInv l rt th W3 wi W3.heap.size (W3.heap.size + 1) K i n ve pv q qs)) (fun ve _ => lenS ve)
      case atStart => exact ⟨n, q, hI⟩
      clear hI
      obtain ⟨n, q, hI⟩ := hrel
      obtain ⟨a, m, c, ev, hm, hmc, hard⟩ := hI.out.ve
      subst ev
      have HMN := Lib.hid hm
      have HARD := Lib.hid hard
      have hW := hI.out.b
      have y0 : wr.cell? ⟨w.heap.size + 1, 0, none⟩ = some (.int .i64 rt) := (HY3.out.below hW).cell 0
      clear hm hard
      have hir0 : 0 ≤ (i : Int) * rt := Int.mul_nonneg (by omega) (by omega)
      have hir1 : (i : Int) * rt ≤ 20000000 := by
        have h1 : (i : Int) * rt ≤ (i : Int) * 1000 := Int.mul_le_mul_of_nonneg_left hrt2 (by omega)
        omega
      obtain ⟨p, hp⟩ : ∃ p, (i : Int) * rt = p := ⟨_, rfl⟩
      have e1 : IntKind.i64.wrap ((i : Int) * rt) = p := by rw [hp]; exact IntWalk.i64_in _ (by omega)
      rw [hp] at hir0 hir1
      have HPP := Lib.hid hp
      clear hp
      by_cases hm0 : 0 < m
      · have hnl : n < l.length := by have := HMN.out; omega
        obtain ⟨b, o, ea, hbl, q0, q1, q2, q3, q4, htl⟩ := HARD.out.evHead hnl
        subst ea
        obtain ⟨x, hx⟩ : ∃ x, l[n] = x := ⟨_, rfl⟩
        rw [hx] at q0 q1 q2 q3 q4
        replace q0 := (hW.cell (p := ⟨b, o, none⟩) hbl).trans q0
        replace q1 := (hW.cell (p := ⟨b, o + 1, none⟩) hbl).trans q1
        replace q2 := (hW.cell (p := ⟨b, o + 2, none⟩) hbl).trans q2
        replace q3 := (hW.cell (p := ⟨b, o + 3, none⟩) hbl).trans q3
        replace q4 := (hW.cell (p := ⟨b, o + 4, none⟩) hbl).trans q4
        have HXE := Lib.hid hx
        have HXM := Lib.hid (show x ∈ l by rw [← hx]; exact List.getElem_mem hnl)
        have HTL := Lib.hid htl
        have hm2 : (0 : Int) < (m : Int) := by omega
        clear hx htl
        by_cases htk : x.1 ≤ p
        · have htk' : decide (x.1 ≤ p) = true := by rw [decide_eq_true_iff]; exact htk
          have HTP : RowKit.Hid (l[n].1 ≤ i * rt) := Lib.hid (by rw [HXE.out, HPP.out]; exact htk)
          go_wp2_with fail
          go_quiet (fail)
          have HI4 := Lib.hid (hI.out.below (below_drewN (Below.refl _ _) nq))
          replace q0 : (wr.drewN nq).cell? ⟨b, o, none⟩ = some (.int .i64 x.1) := q0
          replace q1 : (wr.drewN nq).cell? ⟨b, o + 1, none⟩ = some (.int .i64 x.2.1) := q1
          replace q2 : (wr.drewN nq).cell? ⟨b, o + 2, none⟩ = some (.int .i64 x.2.2.1) := q2
          replace q3 : (wr.drewN nq).cell? ⟨b, o + 3, none⟩ = some (.int .i64 x.2.2.2.1) := q3
          replace q4 : (wr.drewN nq).cell? ⟨b, o + 4, none⟩ = some (.int .i64 x.2.2.2.2) := q4
          clear hI hW y0
          generalize wr.drewN nq = W4 at *
          have y1 : W4.cell? ⟨w.heap.size + 1, 1, none⟩ = some (.slice at' th.length ct) := (HY3.out.below HI4.out.b).cell 1
          have y1' := cell_alloc y1
          have HBX := Lib.hid (show Below W4.heap.size W4 (W4.alloc (.cells #[.int .i64 x.1, .int .i64 x.2.1, .int .i64 x.2.2.1, .int .i64 x.2.2.2.1, .int .i64 x.2.2.2.2] 68)) from (Below.refl _ W4).alloc (Nat.le_refl _) _)
          have HKX := Lib.hid (Blk.new W4 68 #[.int .i64 x.1, .int .i64 x.2.1, .int .i64 x.2.2.1, .int .i64 x.2.2.2.1, .int .i64 x.2.2.2.2])
          have HIX := Lib.hid (HI4.out.below HBX.out)
          obtain ⟨idx, hidx⟩ : ∃ idx, idx = idxI (thing x) th := ⟨_, rfl⟩
          have HIDX := Lib.hid hidx
          clear hidx
          go_wp2_with fail
          refine (index_any th (thing x) _ _ (by omega) (HTH.out.later (below_step HBW.out HIX.out.b))).mono ?_
          rw [← HIDX.out]
          rintro e W5 ⟨rfl, hb5⟩
          have HI5 := Lib.hid (HIX.out.below hb5)
          have HK5 := Lib.hid (HKX.out.below hb5)
          have k4 : W5.cell? ⟨W4.heap.size, 4, none⟩ = some (.int .i64 x.2.2.2.2) := HK5.out.cell 4
          clear hb5 q0 q1 q2 q3 q4 y1 y1'
          by_cases h3 : x.2.1 ≤ 3
          · obtain ⟨k, hk, hkx, hki⟩ := idxI_mem (HIN.out x HXM.out h3)
            have hik : idx = (k : Int) := by rw [HIDX.out, hki]
            have HKX2 := Lib.hid hkx
            subst hik
            clear hkx hki
            have HON := Lib.hid (onQ_put HI5.out.on SO.out.nodup hth2 hk (x := x) HKX2.out (by omega))
            have hkn : ((k : Int) + 1).toNat = k + 1 := by omega
            have hq := HI5.out.on.1
            have HKN := Lib.hid hkn
            clear hkn
            go_wp2_with fail
            refine (put_now HI5.out.now hq ((k : Int) + 1) (by omega) (by omega) (x.2.2.2.2 == 1)).mono ?_
            rw [HKN.out]
            rintro e W6 ⟨rfl, hk6, hg6, hs6⟩
            have HOV := Lib.hid (show OnQ (putR q (k + 1) (x.2.2.2.2 == 1)) (onV (l.take (n + 1))) th by rw [onV_take hnl, HXE.out]; exact HON.out)
            have HE6 := Lib.hid (fun (a : Option Addr) (m c : Nat) (h1 : m = l.length - (n + 1)) (h2 : m ≤ c) (h3 : ARd W3 (.slice a m c) 5 ((l.drop (n + 1)).map evC)) => HI5.out.event hnl hk6 hg6 HOV.out HTP.out h1 h2 h3)
            clear hk6 hg6 hs6 k4 hq
            by_cases hc1 : c = 1
            · have hm1 : m = 1 := by omega
              have HMN1 := Lib.hid (show 0 = l.length - (n + 1) by have := HMN.out; omega)
              subst hc1
              subst hm1
              go_wp2
              exact ⟨⟨n + 1, _, Lib.hid (HE6.out _ 0 0 HMN1.out (Nat.le_refl _) (HTL.out 0 0 _ HMN1.out (.inl rfl)))⟩, by simp [lenS]⟩
            · have hc2 : 1 < c := by omega
              have HMN1 := Lib.hid (show m - 1 = l.length - (n + 1) by have := HMN.out; omega)
              go_wp2
              exact ⟨⟨n + 1, _, Lib.hid (HE6.out _ _ _ HMN1.out (by omega) (HTL.out _ _ _ HMN1.out (.inr rfl)))⟩, by simp [lenS]; omega⟩
          · have hno : thing x ∉ th := fun hm => h3 (scOk_kind SO.out hm).2
            have hik : idx = -1 := by rw [HIDX.out, idxI_no hno]
            subst hik
            have HON := Lib.hid (onQ_skip HI5.out.on hno)
            have HOV := Lib.hid (show OnQ q (onV (l.take (n + 1))) th by rw [onV_take hnl, HXE.out]; exact HON.out)
            have HE6 := Lib.hid (fun (a : Option Addr) (m c : Nat) (h1 : m = l.length - (n + 1)) (h2 : m ≤ c) (h3 : ARd W3 (.slice a m c) 5 ((l.drop (n + 1)).map evC)) => HI5.out.event hnl HI5.out.now (World.grownBy.refl _ _) HOV.out HTP.out h1 h2 h3)
            clear hno k4 h3
            by_cases hc1 : c = 1
            · have hm1 : m = 1 := by omega
              have HMN1 := Lib.hid (show 0 = l.length - (n + 1) by have := HMN.out; omega)
              subst hc1
              subst hm1
              go_wp2
              exact ⟨⟨n + 1, _, Lib.hid (HE6.out _ 0 0 HMN1.out (Nat.le_refl _) (HTL.out 0 0 _ HMN1.out (.inl rfl)))⟩, by simp [lenS]⟩
            · have hc2 : 1 < c := by omega
              have HMN1 := Lib.hid (show m - 1 = l.length - (n + 1) by have := HMN.out; omega)
              go_wp2
              exact ⟨⟨n + 1, _, Lib.hid (HE6.out _ _ _ HMN1.out (by omega) (HTL.out _ _ _ HMN1.out (.inr rfl)))⟩, by simp [lenS]; omega⟩
        · have htk' : decide (x.1 ≤ p) = false := by rw [decide_eq_false_iff_not]; exact htk
          have HU : RowKit.Hid (upN l (i * rt) = n) := Lib.hid (upN_is hI.out.hn hI.out.past (fun _ => by rw [HXE.out, HPP.out]; exact htk))
          clear htk
          go_wp2_with fail
          go_quiet (fail)
          have HI4 := Lib.hid (hI.out.below (below_drewN (Below.refl _ _) nq))
          clear hI hW y0
          generalize wr.drewN nq = W4 at *
          have c1 : W4.cell? ⟨W3.heap.size, 1, none⟩ = some pv := HI4.out.p.cell 1
          have n0 : W4.cell? ⟨W3.heap.size + 1, 0, none⟩ = some (.int .u64 q.1) := HI4.out.now.cell 0
          have n1 : W4.cell? ⟨W3.heap.size + 1, 1, none⟩ = some (.int .u64 q.2) := HI4.out.now.cell 1
          have c1' := cell_alloc c1
          have n0' := cell_alloc n0
          have n1' := cell_alloc n1
          have f1 := HI4.out.p.frozen 1
          have hqs : qs.length ≤ 20000 := by have := HI4.out.len; omega
          have hsz := HI4.out.b.size
          obtain ⟨j0, hj0, jz0, jz1, jz2⟩ := info_parts row_info
          go_wp2_with fail
          go_region_law ((refine step_append_lies _ rfl _ _ 84 rfl W3.heap.size 89 j0 _ 2 16 Tryz.underlying84 hj0 jz0 jz1 jz2 rfl (by omega) _ _ _ rfl (HI4.out.rows.alloc _) ⟨W4.heap.size, 0, none⟩ 1 1 [.int .u64 q.1, .int .u64 q.2] rfl rfl (World.news_of_block (cs := #[.int .u64 q.1, .int .u64 q.2]) (t := 89) (fr := (0, 0)) (heap_alloc_new W4 _)) (by simp [Value.oneCell']) (by omega) (by unfold maxLen; omega) (by omega) (by simp; omega) (W4.heap.size + 1) (by simp) ?_; intro gg cap3 w3 hown3 hgrow hat3 hlt3; obtain ⟨k5, k6, k7, k8, HI6⟩ := HI4.out.app (by omega) HU.out ⟨hgrow.os, hgrow.tape, hgrow.output, hgrow.size, hgrow.block⟩ hown3 rfl hat3))
          all_goals
            clear hown3 hgrow hat3 hlt3 k5 k6 k7 k8 c1 c1' n0 n1 n0' n1' f1
            go_wp2
            go_roundw
            case rel => exact ⟨i + 1, n, _, q, _, by omega, by go_num, HI6⟩
            case measure => simp [intOf]; omega
      · have hmz : m = 0 := by omega
        have HU : RowKit.Hid (upN l (i * rt) = n) := Lib.hid (upN_is hI.out.hn hI.out.past (fun h => by have := HMN.out; omega))
        subst hmz
        go_wp2_with fail
        go_quiet (fail)
        have HI4 := Lib.hid (hI.out.below (below_drewN (Below.refl _ _) nq))
        clear hI hW y0
        generalize wr.drewN nq = W4 at *
        have c1 : W4.cell? ⟨W3.heap.size, 1, none⟩ = some pv := HI4.out.p.cell 1
        have n0 : W4.cell? ⟨W3.heap.size + 1, 0, none⟩ = some (.int .u64 q.1) := HI4.out.now.cell 0
        have n1 : W4.cell? ⟨W3.heap.size + 1, 1, none⟩ = some (.int .u64 q.2) := HI4.out.now.cell 1
        have c1' := cell_alloc c1
        have n0' := cell_alloc n0
        have n1' := cell_alloc n1
        have f1 := HI4.out.p.frozen 1
        have hqs : qs.length ≤ 20000 := by have := HI4.out.len; omega
        have hsz := HI4.out.b.size
        obtain ⟨j0, hj0, jz0, jz1, jz2⟩ := info_parts row_info
        go_wp2_with fail
        go_region_law ((refine step_append_lies _ rfl _ _ 84 rfl W3.heap.size 89 j0 _ 2 16 Tryz.underlying84 hj0 jz0 jz1 jz2 rfl (by omega) _ _ _ rfl (HI4.out.rows.alloc _) ⟨W4.heap.size, 0, none⟩ 1 1 [.int .u64 q.1, .int .u64 q.2] rfl rfl (World.news_of_block (cs := #[.int .u64 q.1, .int .u64 q.2]) (t := 89) (fr := (0, 0)) (heap_alloc_new W4 _)) (by simp [Value.oneCell']) (by omega) (by unfold maxLen; omega) (by omega) (by simp; omega) (W4.heap.size + 1) (by simp) ?_; intro gg cap3 w3 hown3 hgrow hat3 hlt3; obtain ⟨k5, k6, k7, k8, HI6⟩ := HI4.out.app (by omega) HU.out ⟨hgrow.os, hgrow.tape, hgrow.output, hgrow.size, hgrow.block⟩ hown3 rfl hat3))
        all_goals
          clear hown3 hgrow hat3 hlt3 k5 k6 k7 k8 c1 c1' n0 n1 n0' n1' f1
          go_wp2
          go_roundw
          case rel => exact ⟨i + 1, n, _, q, _, by omega, by go_num, HI6⟩
          case measure => simp [intOf]; omega
    · have hi2M : ¬ ((i : Int) < (M : Int)) := by omega
      have hiM2 : i = M := by omega
      have HR := Lib.hid (make_rows_eq HRE.out HSC.out HIN.out HLA.out HM.out hI.out.len hiM2 (K := K) HK.out hth2 hI.out.made hM2)
      have hqs : qs.length ≤ 20000 := by have := hI.out.len; omega
      have HP := Lib.hid (show Pap wr W3.heap.size W3.heap.size (K : Int) pv qs from ⟨hI.out.p, hI.out.rows, hI.out.pb, fun q hq => by
        obtain ⟨j, hj, rfl⟩ := List.getElem_of_mem hq
        exact (hI.out.made j hj).1⟩)
      have HW := Lib.hid (below_step HBW.out hI.out.b)
      have HZ4 := Lib.hid (HZ3.out.below hI.out.b)
      have hK128 : K ≤ 128 := by have := HK.out; omega
      have hlow : w.heap.size + 1 + 1 < wr.heap.size := HZ4.out.lt
      clear hiM2 hI
      go_wp2_with fail
      refine (roll_any K hK128 W3.heap.size W3.heap.size pv qs hqs _ HP.out).mono ?_
      rintro e W7 ⟨rv, rg, rfl, hrd, hb7, hrk⟩
      obtain ⟨ra, rc, rfl⟩ := hrd.form
      have HZ7 := Lib.hid (HZ4.out.below hb7)
      have HW7 := Lib.hid (below_step HW.out hb7)
      have z0 := HZ7.out.cell 0
      have z1 := HZ7.out.cell 1
      have g0 := HZ7.out.frozen 0
      have g1 := HZ7.out.frozen 1
      have hg8 := (set_grown W7 (w.heap.size + 1 + 1) 0 (.int .i64 (K : Int))).trans (set_grown _ (w.heap.size + 1 + 1) 1 (.slice ra (qs.map fun q => told (hole q) K).length rc))
      have HRK := Lib.hid (hrk _ (sameFrom_grown hlow hg8))
      have HRS := Lib.hid (fun w2 (hs : SameFrom w.heap.size ((W7.setCell ⟨w.heap.size + 1 + 1, 0, none⟩ (.int .i64 (K : Int))).setCell ⟨w.heap.size + 1 + 1, 1, none⟩ (.slice ra (qs.map fun q => told (hole q) K).length rc)) w2) => hrk w2 ⟨Nat.le_trans hg8.size hs.1, fun k hk hl => (hs.2 k (by omega) (Nat.lt_of_lt_of_le hl hg8.size)).trans (hg8.block k hl (fun e => by have := Option.some.inj e; omega))⟩)
      have HZ8 := Lib.hid ((HZ7.out.set 0 (.int .i64 (K : Int))).set 1 (.slice ra (qs.map fun q => told (hole q) K).length rc))
      have HW8 := Lib.hid ((HW7.out.setCell (p := ⟨w.heap.size + 1 + 1, 0, none⟩) (by simp only; omega) (.int .i64 (K : Int))).setCell (p := ⟨w.heap.size + 1 + 1, 1, none⟩) (by simp only; omega) (.slice ra (qs.map fun q => told (hole q) K).length rc))
      obtain ⟨rn, hrn⟩ : ∃ rn, (qs.map fun q => told (hole q) K).length = rn := ⟨_, rfl⟩
      rw [hrn] at HRK HRS HZ8 HW8 ⊢
      clear hb7 hrd hrk hrn hg8
      go_wp2
      have c0 := HZ8.out.cell 0
      have c1 := HZ8.out.cell 1
      refine bodyPost_ret (v := .tuple #[.agg #[.int .i64 (K : Int), .slice ra rn rc], .int .i64 0]) (by simp [results, Tryz.results9, go_sem, c0, c1]) rfl (mkR_of HR.out ⟨_, rg, rfl, HRK.out, HW8.out, HRS.out⟩)
end Go.Proofs.YtppccacfdpkkgaaGreatDoor
