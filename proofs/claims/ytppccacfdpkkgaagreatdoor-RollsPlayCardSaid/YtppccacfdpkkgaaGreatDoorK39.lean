/-
  CONTRACTS: slices.Insert at rows, where there is no room.
-/
import Derived.Test.YtppccacfdpkkgaaGreatDoorK3
import Derived.Lib.AppendZeros
import Derived.Lib.AppendZerosOnto
import Derived.Deep.AppendSrc
import Derived.Laws.NewBlocks
import Derived.Laws.IdiomCopy
import Derived.Deep.CutRange
import Derived.Shelf.RegionOpenPlain
namespace Go.Proofs.YtppccacfdpkkgaaGreatDoor
open Go.RowKit Go.Shelf Go.Lib
/-- Elements of k cells are copied: all is read before anything is written. -/
theorem run_copyK {P : Program} (w : World) (dT sT ty elem : TypeId) (k b o dLen dCap : Nat) (a : Addr) (sLen sCap : Nat) (cs : List Value)
    (hu : P.underlying dT = some (.slice elem)) (hs : (P.info? elem).map (·.size) = some k) (hn : cs.length = Nat.min sLen dLen * k)
    (hsrc : ∀ j v, cs[j]? = some v → w.cell? (a.add j) = some v) (hc : ∀ j, j < cs.length → (w.cell? ⟨b, o + j, none⟩).isSome = true) (hf : ∀ j, j < cs.length → w.frozen? ⟨b, o + j, none⟩ = false) (h1 : ∀ v ∈ cs, v.oneCell' = true) :
    (Builtin.copy_ #[dT, sT] ty #[.slice (some ⟨b, o, none⟩) dLen dCap, .slice (some a) sLen sCap]).run P w = .ok (goInt (Nat.min sLen dLen)) (w.setCells b o cs) := by
  have hl := run_loadCells_list (P := P) w a cs hsrc
  have hst := run_storeCells_cells (P := P) b o cs 0 w (by simpa using hc) (by simpa using hf) h1
  cases hq : P.info? elem with
  | none => simp [hq] at hs
  | some i =>
    have hi : i.size = k := by simpa [hq] using hs
    simp [Builtin.copy_, run_underlying hu, Builtin.lenOf, Builtin.firstCells, sizeOf, typeInfo, hq, hi, ← hn, hl, hst]
theorem wpList_copyK {P : Program} (w : World) {ops : Array Oper} {rest : List Oper} {o : Oper} {a : Act} {Q : Exit → Act → World → Prop} (hgd : o.guard = none) (d s : Operand) (t t' : TypeId)
    (ho : o.op = .call { callee := .builtin .copy, args := #[d, s], argTypes := #[t, t'] }) (v u : Value) (hd : a.eval d = v) (hs : a.eval s = u) {v' : Value} {w' : World}
    (hr : (Builtin.copy_ #[t, t'] o.type #[v, u]).run P w = .ok v' w') (h : wpList P ops Q rest (a.put o.dst v') w') : wpList P ops Q (o :: rest) a w :=
  wpList_plain hgd fun _ hK => by
    unfold Oper.wp execOp
    simp only [ho, resolve, invoke, builtin, Sem.run_bind, Sem.run_pure, Result.andThen_ok, List.map_toArray, List.map_cons, List.map_nil, hd, hs, hr]
    exact hK _ _ h
theorem step_copyK {P : Program} {ops : Array Oper} {o : Oper} {a : Act} {w : World} {K : Act → World → Prop} {Q : Exit → Act → World → Prop} {E : Prop}
    (hg : o.guard = none) (d x : Operand) (dT sT : TypeId) (hop : o.op = Op.call { callee := Callee.builtin Builtin.copy, args := #[d, x], argTypes := #[dT, sT] })
    (v u : Value) (hd : a.eval d = v) (hx : a.eval x = u) {v' : Value} {w' : World} (hr : (Builtin.copy_ #[dT, sT] o.type #[v, u]).run P w = .ok v' w') (hK : K (a.put o.dst v') w') :
    if Region.wanted o (yielded ops a.tmps) = true then Oper.wp P o a w K Q else E := by
  have hw : Region.wanted o (yielded ops a.tmps) = true := by simp [Region.wanted, hg]
  rw [if_pos hw]
  unfold Oper.wp
  simp [execOp, hop, resolve, invoke, builtin, hd, hx, hr, Result.andThen]
  exact hK
theorem row_infoI : (Tryz.prog.info? 89).map (fun i => (i.zero, i.size, i.bytes)) = some (some (.agg #[.int .u64 0, .int .u64 0]), 2, 16) := by kernel_rfl
theorem cell_addI {w : World} {b off : Nat} {cs : List Value} (h : ∀ j v, cs[j]? = some v → w.cell? ⟨b, off + j, none⟩ = some v) : ∀ j v, cs[j]? = some v → w.cell? ((⟨b, off, none⟩ : Addr).add j) = some v := fun j v hj => by
  rw [Addr.add_lit]; exact h j v hj
/-- Nothing is inserted. -/
theorem insert_none (a b : Option Addr) (n c i vc : Nat) (hi : i ≤ n) (w : World) (_hnc : n ≤ c) :
    Calls Tryz.prog 58 #[.slice a n c, .int .i64 i, .slice b 0 vc] w fun e w' => e = .returned (.slice a n c) ∧ w' = w := by
  have hi2 : (i : Int) ≤ (n : Int) := by omega
  go_enter Tryz.func58, Tryz.ntmps58
  go_wp2
  all_goals (go_ret; exact ⟨rfl, rfl⟩)
theorem rw_flat_take (qs : List Rw) (i : Nat) (h : i ≤ qs.length) : ((qs.map rwC).flatten).take (i * 2) = ((qs.take i).map rwC).flatten := by
  induction qs generalizing i with
  | nil => simp
  | cons a l ih =>
    cases i with
    | zero => simp
    | succ i =>
      rw [List.map_cons, List.flatten_cons, List.take_succ_cons, List.map_cons, List.flatten_cons, ← ih i (by simpa using h)]
      rw [show (i + 1) * 2 = (rwC a).length + i * 2 by simp [rwC]; omega, List.take_length_add_append]
theorem rw_flat_drop (qs : List Rw) (i : Nat) (h : i ≤ qs.length) : ((qs.map rwC).flatten).drop (i * 2) = ((qs.drop i).map rwC).flatten := by
  induction qs generalizing i with
  | nil => simp
  | cons a l ih =>
    cases i with
    | zero => simp
    | succ i =>
      rw [List.map_cons, List.flatten_cons, List.drop_succ_cons, ← ih i (by simpa using h)]
      rw [show (i + 1) * 2 = (rwC a).length + i * 2 by simp [rwC]; omega, List.drop_length_add_append]
theorem rw_one (l : List Rw) : ∀ v ∈ (l.map rwC).flatten, v.oneCell' = true := fun v hv => by
  obtain ⟨r, hr, hv⟩ := List.mem_flatten.1 hv
  obtain ⟨q, _, rfl⟩ := List.mem_map.1 hr
  simp [rwC] at hv
  rcases hv with rfl | rfl <;> rfl
theorem grown_cells (g : Nat) : ∀ (vs : List Value) (o : Nat) (W : World), W.grownBy (W.setCells g o vs) (some g)
  | [], _, W => World.grownBy.refl W _
  | v :: r, o, W => by
    have h : W.grownBy (W.setCell ⟨g, o, none⟩ v) (some g) :=
      ⟨rfl, rfl, rfl, by simp [World.setCell], fun k _ hne => (Below.heap_setCell W ⟨g, o, none⟩ v k (fun e => hne (by rw [e])))⟩
    exact h.trans (grown_cells g r (o + 1) _)
/-- Cells are written over a part of a block. -/
theorem blk_put {t : TypeId} {g : Nat} : ∀ (vs : List Value) (o : Nat) (W : World) (cur : Array Value), Blk W g t cur → o + vs.length ≤ cur.size → Blk (W.setCells g o vs) g t (cur.toList.take o ++ vs ++ cur.toList.drop (o + vs.length)).toArray
  | [], o, W, cur, h, hl => by
    have e : (cur.toList.take o ++ [] ++ cur.toList.drop (o + ([] : List Value).length)).toArray = cur := by simp
    rw [e]
    exact h
  | v :: r, o, W, cur, h, hl => by
    rw [List.length_cons] at hl
    have h1 := blk_put r (o + 1) _ _ (h.set o v) (by simpa using by omega)
    have hlt : o < cur.toList.length := by rw [Array.length_toList]; omega
    have e : ((cur.setIfInBounds o v).toList.take (o + 1) ++ r ++ (cur.setIfInBounds o v).toList.drop (o + 1 + r.length)).toArray = (cur.toList.take o ++ v :: r ++ cur.toList.drop (o + (v :: r).length)).toArray := by
      rw [Array.toList_setIfInBounds, List.drop_set_of_lt (by omega), List.take_succ_eq_append_getElem (by simpa using hlt), List.take_set_of_le (Nat.le_refl _), List.getElem_set_self, List.length_cons]
      simp [Nat.add_assoc, Nat.add_comm 1]
    rw [e] at h1
    exact h1
/-- How Insert ends. -/
def InE (base : Nat) (u : Value) (l : List Rw) (w : World) (e : Ending) (w' : World) : Prop := ∃ u', e = .returned u' ∧ w'.ownsRow base 89 2 u' l.length (l.map rwC).flatten ∧ w.grownBy w' u.ownBlock
set_option maxRecDepth 100000 in
set_option maxHeartbeats 3200000 in
theorem insert_end (qs ms : List Rw) (hl : qs.length + ms.length ≤ 40000) (hm : 0 < ms.length) (base : Nat) (a b : Option Addr) (c d : Nat) (w : World) (hbase : base ≤ w.heap.size)
    (hu : w.ownsRow base 89 2 (.slice a qs.length c) qs.length (qs.map rwC).flatten) (_hnc : qs.length ≤ c)
    (hv : w.ownsRow base 89 2 (.slice b ms.length d) ms.length (ms.map rwC).flatten) :
    Calls Tryz.prog 58 #[.slice a qs.length c, .int .i64 qs.length, .slice b ms.length d] w (InE base (.slice a qs.length c) (qs ++ ms) w) := by
  obtain ⟨i0, hi0, hz0, hz1, hz2⟩ := info_parts row_infoI
  obtain ⟨g2, cap2, e2, _, _⟩ := hv.form hm
  simp only [Value.slice.injEq] at e2
  obtain ⟨rfl, -, rfl⟩ := e2
  have hvc : ∀ j v, ((ms.map rwC).flatten)[j]? = some v → w.cell? ((⟨g2, 0, none⟩ : Addr).add j) = some v := hv.cells rfl
  have hvl : ((ms.map rwC).flatten).length = ms.length * 2 := hv.1
  obtain ⟨n, hn⟩ : ∃ n, qs.length = n := ⟨_, rfl⟩
  obtain ⟨m, hmm⟩ : ∃ m, ms.length = m := ⟨_, rfl⟩
  have HE := Lib.hid (show (qs ++ ms).length = n + m by rw [List.length_append, hn, hmm])
  have HF := Lib.hid (show ((qs ++ ms).map rwC).flatten = (qs.map rwC).flatten ++ (ms.map rwC).flatten by rw [List.map_append, List.flatten_append])
  rw [hn] at hu hl _hnc ⊢
  rw [hmm] at hv hl hm hvl ⊢
  have hm0 : ¬ ((m : Int) = 0) := by omega
  have hm1 : ((m : Int) == 0) = false := by rw [beq_eq_false_iff_ne]; exact hm0
  have HU := Lib.hid hu
  have HVC := Lib.hid hvc
  have HVL := Lib.hid hvl
  clear hv hn hmm hu hvc hvl
  go_enter Tryz.func58, Tryz.ntmps58
  go_wp2_with (at_builtin; refine wpList_append_own _ rfl _ _ 84 rfl base 89 i0 _ 2 16 Tryz.underlying84 hi0 hz0 hz1 hz2 rfl (by omega) (.slice a n c) _ _ rfl HU.out ⟨g2, 0, none⟩ m _ ((ms.map rwC).flatten) rfl HVL.out HVC.out (rw_one ms) (by unfold maxLen; omega) (by omega) hbase ?_; intro v' w1 hown' hgrow _)
  all_goals (go_ret; exact ⟨_, rfl, by rw [HE.out, HF.out]; exact hown', by cases a <;> exact hgrow⟩)
set_option maxRecDepth 100000 in
set_option maxHeartbeats 6400000 in
theorem insert_grow (qs ms : List Rw) (hl : qs.length + ms.length ≤ 40000) (hm : 0 < ms.length) (base i : Nat) (hi : i < qs.length) (a b : Option Addr) (d : Nat) (w : World) (hbase : base ≤ w.heap.size)
    (hu : w.ownsRow base 89 2 (.slice a qs.length qs.length) qs.length (qs.map rwC).flatten)
    (hv : w.ownsRow base 89 2 (.slice b ms.length d) ms.length (ms.map rwC).flatten) :
    Calls Tryz.prog 58 #[.slice a qs.length qs.length, .int .i64 i, .slice b ms.length d] w (InE base (.slice a qs.length qs.length) (qs.take i ++ (ms ++ qs.drop i)) w) := by
  obtain ⟨i0, hi0, hz0, hz1, hz2⟩ := info_parts row_infoI
  obtain ⟨g1, cap1, e1, _, hg1⟩ := hu.form (by omega)
  simp only [Value.slice.injEq] at e1
  obtain ⟨rfl, -, rfl⟩ := e1
  obtain ⟨g2, cap2, e2, _, hg2⟩ := hv.form hm
  simp only [Value.slice.injEq] at e2
  obtain ⟨rfl, -, rfl⟩ := e2
  have hcs : ∀ j v, ((qs.map rwC).flatten)[j]? = some v → w.cell? ⟨g1, j, none⟩ = some v := fun j v hj => by have := hu.cells (g := g1) rfl j v hj; rwa [Addr.add_lit, Nat.zero_add] at this
  have hvs : ∀ j v, ((ms.map rwC).flatten)[j]? = some v → w.cell? ⟨g2, j, none⟩ = some v := fun j v hj => by have := hv.cells (g := g2) rfl j v hj; rwa [Addr.add_lit, Nat.zero_add] at this
  have hql : ((qs.map rwC).flatten).length = qs.length * 2 := hu.1
  have hvl : ((ms.map rwC).flatten).length = ms.length * 2 := hv.1
  obtain ⟨n, hn⟩ : ∃ n, qs.length = n := ⟨_, rfl⟩
  obtain ⟨m, hmm⟩ : ∃ m, ms.length = m := ⟨_, rfl⟩
  obtain ⟨CS, hCS⟩ : ∃ CS, (qs.map rwC).flatten = CS := ⟨_, rfl⟩
  obtain ⟨VS, hVS⟩ : ∃ VS, (ms.map rwC).flatten = VS := ⟨_, rfl⟩
  have h1c : ∀ v ∈ CS, v.oneCell' = true := by rw [← hCS]; exact rw_one qs
  have h1v : ∀ v ∈ VS, v.oneCell' = true := by rw [← hVS]; exact rw_one ms
  have HEL := Lib.hid (show (qs.take i ++ (ms ++ qs.drop i)).length = n + m by rw [List.length_append, List.length_append, List.length_take, List.length_drop]; omega)
  have HEF := Lib.hid (show ((qs.take i ++ (ms ++ qs.drop i)).map rwC).flatten = CS.take (i * 2) ++ VS ++ CS.drop (i * 2) by
    rw [List.map_append, List.map_append, List.flatten_append, List.flatten_append, ← rw_flat_take qs i (by omega), ← rw_flat_drop qs i (by omega), hCS, hVS, List.append_assoc])
  rw [hCS] at hcs hql
  rw [hVS] at hvs hvl
  rw [hn] at hl hi hql ⊢
  rw [hmm] at hl hm hvl ⊢
  clear hu hv hCS hVS hn hmm
  have hm1 : ((m : Int) == 0) = false := by rw [beq_eq_false_iff_ne]; omega
  have hm2 : ¬ ((m : Int) = 0) := by omega
  have hi1 : ((i : Int) == (n : Int)) = false := by rw [beq_eq_false_iff_ne]; omega
  have hi2 : ¬ ((i : Int) = (n : Int)) := by omega
  have hi3 : (i : Int) ≤ (n : Int) := by omega
  have hz3 : (n : Int) < (n : Int) + (m : Int) := by omega
  have hsz : (Tryz.prog.info? 89).map (·.size) = some 2 := by rw [hi0]; simp [hz1]
  have hkk : (n : Int) + (m : Int) - (i : Int) = ((n + m - i : Nat) : Int) := by omega
  have hik : i + (n + m - i) = n + m := by omega
  have htl : (CS.take (i * 2)).length = i * 2 := by rw [List.length_take]; omega
  have hdl : (CS.drop (i * 2)).length = (n - i) * 2 := by rw [List.length_drop, hql]; omega
  have hold : (Builtin.firstCells i0.size i (.slice (some ⟨g1, 0, none⟩) i n)).run Tryz.prog w.drew = .ok (CS.take (i * 2)).toArray w.drew := by
    rw [hz1]
    exact run_firstCells_some w.drew 2 i ⟨g1, 0, none⟩ i n (CS.take (i * 2)) htl (fun j v hj => by
      rw [Addr.add_lit, Nat.zero_add]
      rw [List.getElem?_take] at hj
      split at hj
      · exact hcs j v hj
      · cases hj)
  have hrz : ∀ ty, (Builtin.append_ #[84, 3] ty #[.slice (some ⟨g1, 0, none⟩) i n, .int .i64 ((n : Int) + (m : Int) - (i : Int))]).run Tryz.prog w =
      .ok (.slice (some ⟨w.heap.size, 0, none⟩) (n + m) (grownCap w (n + m) n 89)) (w.drew.alloc (.cells ((CS.take (i * 2)).toArray ++ Builtin.zeroCells (Value.agg #[.int .u64 0, .int .u64 0]).cells (n + m - i) ++ Builtin.zeroCells (Value.agg #[.int .u64 0, .int .u64 0]).cells (grownCap w (n + m) n 89 - (n + m))) 89)) := fun ty => by
    have h := run_append_grow_zeros w 84 3 ty 89 i0 _ .i64 .i64 Tryz.underlying84 Tryz.underlying3 hi0 hz0 (some ⟨g1, 0, none⟩) i n (CS.take (i * 2)) hold (n + m - i) (by omega) (by omega) (by omega) (by omega) (by rw [hz2]; omega) (by rw [hz2, hik]; exact growslice_fits (by omega) (by omega))
    rw [hik] at h
    rw [hkk]
    exact h
  have hGn := grownCap_ge w (n + m) n 89
  have hGm := grownCap_le_maxLen w (n + m) n 89 (by unfold maxLen; omega)
  obtain ⟨G, hG⟩ : ∃ G, G = grownCap w (n + m) n 89 := ⟨_, rfl⟩
  obtain ⟨Z1, hZ1⟩ : ∃ Z1 : Array Value, Z1 = Builtin.zeroCells (Value.agg #[.int .u64 0, .int .u64 0]).cells (n + m - i) := ⟨_, rfl⟩
  obtain ⟨Z2, hZ2⟩ : ∃ Z2 : Array Value, Z2 = Builtin.zeroCells (Value.agg #[.int .u64 0, .int .u64 0]).cells (G - (n + m)) := ⟨_, rfl⟩
  rw [← hG] at hrz hGn hGm
  have hz1l : Z1.size = (n + m - i) * 2 := by rw [hZ1, size_zeroCells]; rfl
  have hz2l : Z2.size = (G - (n + m)) * 2 := by rw [hZ2, size_zeroCells]; rfl
  rw [← hZ1, ← hZ2] at hrz
  obtain ⟨ROW, hROW⟩ : ∃ ROW : Array Value, ROW = (CS.take (i * 2)).toArray ++ Z1 ++ Z2 := ⟨_, rfl⟩
  rw [← hROW] at hrz
  have hRs : ROW.size = G * 2 := by
    rw [hROW, Array.size_append, Array.size_append, List.size_toArray, htl, hz1l, hz2l]
    omega
  have hRt : ROW.toList.take (i * 2) = CS.take (i * 2) := by
    rw [hROW, Array.toList_append, Array.toList_append, List.append_assoc, List.take_append_of_le_length (by rw [htl]; exact Nat.le_refl _), List.take_of_length_le (by rw [htl]; exact Nat.le_refl _)]
  clear hG hZ1 hZ2 hz1l hz2l hROW
  obtain ⟨W1, hW1⟩ : ∃ W1, W1 = (w.alloc (.cells ROW 89)).drew := ⟨_, rfl⟩
  have hk1 : Blk W1 w.heap.size 89 ROW := by rw [hW1]; exact Blk.new w _ _
  have hbl : Below w.heap.size w W1 := by rw [hW1]; exact ((Below.refl _ _).alloc (Nat.le_refl _) _).drew
  have hk2 := blk_put VS (i * 2) W1 ROW hk1 (by rw [hRs, hvl]; omega)
  have hk3 := blk_put (CS.drop (i * 2)) ((i + m) * 2) (W1.setCells w.heap.size (i * 2) VS).drew _ hk2 (by simp [hdl, hvl, hRs]; omega)
  have hsz1 : W1.heap.size = w.heap.size + 1 := by rw [hW1]; simp
  have hN : ∀ j, j < (n + m) * 2 → (W1.cell? ⟨w.heap.size, j, none⟩).isSome = true := fun j hj => by
    rw [hk1.cell, Array.getElem?_eq_getElem (by omega)]; rfl
  have hNf : ∀ j, W1.frozen? ⟨w.heap.size, j, none⟩ = false := fun j => hk1.frozen j
  have hOb : ∀ j v, CS[j]? = some v → W1.cell? ⟨g1, j, none⟩ = some v := fun j v h => (hbl.cell (p := ⟨g1, j, none⟩) hg1).trans (hcs j v h)
  have hOv : ∀ j v, VS[j]? = some v → W1.cell? ⟨g2, j, none⟩ = some v := fun j v h => (hbl.cell (p := ⟨g2, j, none⟩) hg2).trans (hvs j v h)
  have hbN : g1 ≠ w.heap.size := by omega
  have hmin1 : Nat.min m (n + m - i) = m := Nat.min_eq_left (by omega)
  have hmin2 : Nat.min (n - i) (n + m - (i + m)) = n - i := Nat.min_eq_left (by omega)
  have hcpA : ∀ (W : World), (∀ x, W.cell? x = W1.cell? x) → (∀ x, W.frozen? x = W1.frozen? x) → ∀ ty dc, (Builtin.copy_ #[84, 84] ty #[.slice (some ⟨w.heap.size, i * 2, none⟩) (n + m - i) dc, .slice (some ⟨g2, 0, none⟩) m d]).run Tryz.prog W = .ok (goInt m) (W.setCells w.heap.size (i * 2) VS) := fun W hWc hWf ty dc => by
    have h := run_copyK (P := Tryz.prog) W 84 84 ty 89 2 w.heap.size (i * 2) (n + m - i) dc ⟨g2, 0, none⟩ m d VS Tryz.underlying84 hsz (by rw [hmin1, hvl])
      (fun j v hj => by rw [Addr.add_lit, Nat.zero_add, hWc]; exact hOv _ v hj)
      (fun j hj => by rw [hWc]; exact hN _ (by omega)) (fun j hj => by rw [hWf]; exact hNf _) h1v
    rwa [hmin1] at h
  have hcpB : ∀ (W : World), (∀ x, W.cell? x = (W1.setCells w.heap.size (i * 2) VS).cell? x) → (∀ x, W.frozen? x = (W1.setCells w.heap.size (i * 2) VS).frozen? x) → ∀ ty dc sc, (Builtin.copy_ #[84, 84] ty #[.slice (some ⟨w.heap.size, (i + m) * 2, none⟩) (n + m - (i + m)) dc, .slice (some ⟨g1, i * 2, none⟩) (n - i) sc]).run Tryz.prog W = .ok (goInt ((n - i : Nat) : Int)) (W.setCells w.heap.size ((i + m) * 2) (CS.drop (i * 2))) := fun W hWc hWf ty dc sc => by
    have h := run_copyK (P := Tryz.prog) W 84 84 ty 89 2 w.heap.size ((i + m) * 2) (n + m - (i + m)) dc ⟨g1, i * 2, none⟩ (n - i) sc (CS.drop (i * 2)) Tryz.underlying84 hsz (by rw [hmin2, hdl])
      (fun j v hj => by
        rw [Addr.add_lit, hWc, World.cell?_setCells_out _ _ _ _ _ (fun h _ => absurd h hbN)]
        exact hOb _ v (by rwa [List.getElem?_drop] at hj))
      (fun j hj => by rw [hWc, hk2.cell, Array.getElem?_eq_getElem (by simp [hvl, hRs]; omega)]; rfl)
      (fun j hj => by rw [hWf, World.frozen?_setCells]; exact hNf _) (fun v hv => h1c v (List.mem_of_mem_drop hv))
    rwa [hmin2] at h
  have hfin : ∀ (W' : World), W' = (W1.setCells w.heap.size (i * 2) VS).drew.setCells w.heap.size ((i + m) * 2) (CS.drop (i * 2)) → InE base (.slice (some ⟨g1, 0, none⟩) n n) (qs.take i ++ (ms ++ qs.drop i)) w (.returned (.slice (some ⟨w.heap.size, 0, none⟩) (n + m) G)) W' := fun W' e => by
    subst e
    refine ⟨_, rfl, ?_, ?_⟩
    · rw [HEL.out, HEF.out]
      refine ⟨?_, .inr ⟨w.heap.size, G, _, rfl, hbase, hk3, hGn, hGm, ?_, ?_⟩⟩
      · rw [List.length_append, List.length_append, htl, hvl, hdl]; omega
      · simp [hdl, hvl, hRs]; omega
      · have e1 : ROW.toList.take (i * 2) ++ VS = CS.take (i * 2) ++ VS := by rw [hRt]
        have e2 : (CS.take (i * 2) ++ VS).length = (i + m) * 2 := by rw [List.length_append, htl, hvl]; omega
        simp only [e1]
        rw [List.take_left' e2, List.take_left' (by rw [List.length_append, e2, hdl]; omega)]
    · have h1 := (grown_cells w.heap.size VS (i * 2) W1).trans (show (W1.setCells w.heap.size (i * 2) VS).grownBy (W1.setCells w.heap.size (i * 2) VS).drew (some w.heap.size) from ⟨rfl, rfl, rfl, Nat.le_refl _, fun _ _ _ => rfl⟩)
      have h2 := h1.trans (grown_cells w.heap.size (CS.drop (i * 2)) ((i + m) * 2) _)
      exact ⟨h2.os.trans hbl.os, h2.tape.trans hbl.tape, h2.output.trans hbl.output, Nat.le_trans hbl.size h2.size, fun k hk _ => (h2.block k (by omega) (by simp; omega)).trans (hbl.block k hk)⟩
  clear hk1 hk2 hk3
  subst hW1
  have hF1 : ∀ x, (((w.alloc (.cells ROW 89)).drew.setCells w.heap.size (i * 2) VS).drew).cell? x = ((w.alloc (.cells ROW 89)).drew.setCells w.heap.size (i * 2) VS).cell? x := fun x => rfl
  have hF2 : ∀ x, (((w.alloc (.cells ROW 89)).drew.setCells w.heap.size (i * 2) VS).drew).frozen? x = ((w.alloc (.cells ROW 89)).drew.setCells w.heap.size (i * 2) VS).frozen? x := fun x => rfl
  have hmx : Tryz.prog.follows .mixedOrders = true := by kernel_rfl
  have hb1 : (0 : Int) ≤ (i : Int) + (m : Int) := by omega
  have hb4 : ((i : Int) + (m : Int)) ≤ (n : Int) + (m : Int) := by omega
  have hin : i ≤ n := by omega
  have htn : ((i : Int) + (m : Int)).toNat = i + m := by omega
  have hw1 : IntKind.i64.wrap ((i : Int) + (m : Int)) = (i : Int) + (m : Int) := by rw [IntKind.wrap_i64]; omega
  have hG63 : G ≤ 9223372036854775807 := by unfold maxLen at hGm; omega
  have hGi : ¬ (G = i) := by omega
  have hGim : ¬ (G = i + m) := by omega
  have hci : ¬ (n = i) := by omega
  have HFIN := Lib.hid hfin
  clear hfin hkk hik hold hRs hRt HEL HEF hN hNf hOb hOv htl hdl hcs hvs h1c h1v hvl hql
  go_enter Tryz.func58, Tryz.ntmps58
  have hE1 : ∀ x, (w.drew.alloc (.cells ROW 89)).cell? x = ((w.alloc (.cells ROW 89)).drew).cell? x := fun x => rfl
  have hE2 : ∀ x, (w.drew.alloc (.cells ROW 89)).frozen? x = ((w.alloc (.cells ROW 89)).drew).frozen? x := fun x => rfl
  have hE3 : ∀ x, ((w.alloc (.cells ROW 89)).drew).cell? x = ((w.alloc (.cells ROW 89)).drew).cell? x := fun x => rfl
  have hE4 : ∀ x, ((w.alloc (.cells ROW 89)).drew).frozen? x = ((w.alloc (.cells ROW 89)).drew).frozen? x := fun x => rfl
  go_upto_region 10 with (at_builtin; refine Lib.wpList_append_run _ rfl _ _ _ _ rfl _ _ rfl rfl _ _ (hrz _) ?_)
  have hA := hcpA (w.alloc (.cells ROW 89)).drew hE3 hE4
  go_wp2
  go_region_law_o (refine step_copyK rfl _ _ 84 84 rfl (.slice (some ⟨w.heap.size, (i + m) * 2, none⟩) (n + m - (i + m)) (G - (i + m))) (.slice (some ⟨g1, i * 2, none⟩) (n - i) (n - i)) (by simp [Act.eval, Act.put]) (by simp [Act.eval, Act.put]) (hcpB _ hF1 hF2 3 (G - (i + m)) (n - i)) ?_)
  all_goals go_wp2
  go_ret
  exact HFIN.out _ rfl
/-- Insert where the row has no room. -/
theorem insert_any (qs ms : List Rw) (hl : qs.length + ms.length ≤ 40000) (base i : Nat) (hi : i ≤ qs.length) (a b : Option Addr) (d : Nat) (w : World) (hbase : base ≤ w.heap.size)
    (hu : w.ownsRow base 89 2 (.slice a qs.length qs.length) qs.length (qs.map rwC).flatten)
    (hv : w.ownsRow base 89 2 (.slice b ms.length d) ms.length (ms.map rwC).flatten) :
    Calls Tryz.prog 58 #[.slice a qs.length qs.length, .int .i64 i, .slice b ms.length d] w (InE base (.slice a qs.length qs.length) (qs.take i ++ (ms ++ qs.drop i)) w) := by
  rcases Nat.eq_zero_or_pos ms.length with h0 | h0
  · have hm : ms = [] := List.length_eq_zero_iff.1 h0
    subst hm
    refine (insert_none a b qs.length qs.length i d hi w (Nat.le_refl _)).mono ?_
    rintro e w' ⟨rfl, rfl⟩
    refine ⟨_, rfl, ?_, World.grownBy.refl _ _⟩
    rw [List.nil_append, List.take_append_drop]
    exact hu
  · by_cases hin : i = qs.length
    · subst hin
      have := insert_end qs ms hl h0 base a b qs.length d w hbase hu (Nat.le_refl _) hv
      rw [List.take_of_length_le (Nat.le_refl _), List.drop_of_length_le (Nat.le_refl _), List.append_nil]
      exact this
    · exact insert_grow qs ms hl h0 base i (by omega) a b d w hbase hu hv
end Go.Proofs.YtppccacfdpkkgaaGreatDoor
