/-
  CONTRACTS: the closure of Check that checks a part. CONTRACTS: Check: the state between its parts.
-/
import Derived.Test.YtkddeliifadcoaaDoorC4
import Derived.Test.YtkddeliifadcoaaDoorC3
import Derived.Test.YtkddeliifadcoaaDoorC6
import Derived.Test.YtkddeliifadcoaaDoorSpK
namespace Go.Proofs.YtkddeliifadcoaaDoor
open Go.RowKit
theorem held_step10 {W0 W w' : World} {a0 : Addr} {u0 : Value} {a1 : Addr} {u1 : Value} {a2 : Addr} {u2 : Value} {a3 : Addr} {u3 : Value} {a4 : Addr} {u4 : Value} {a5 : Addr} {u5 : Value} {a6 : Addr} {u6 : Value} {a7 : Addr} {u7 : Value} {a8 : Addr} {u8 : Value} {a9 : Addr} {u9 : Value} (h : Below W0.heap.size W0 W ∧ W.cell? a0 = some u0 ∧ W.cell? a1 = some u1 ∧ W.cell? a2 = some u2 ∧ W.cell? a3 = some u3 ∧ W.cell? a4 = some u4 ∧ W.cell? a5 = some u5 ∧ W.cell? a6 = some u6 ∧ W.cell? a7 = some u7 ∧ W.cell? a8 = some u8 ∧ W.cell? a9 = some u9) (hb : Below W.heap.size W w') : Below W0.heap.size W0 w' ∧ w'.cell? a0 = some u0 ∧ w'.cell? a1 = some u1 ∧ w'.cell? a2 = some u2 ∧ w'.cell? a3 = some u3 ∧ w'.cell? a4 = some u4 ∧ w'.cell? a5 = some u5 ∧ w'.cell? a6 = some u6 ∧ w'.cell? a7 = some u7 ∧ w'.cell? a8 = some u8 ∧ w'.cell? a9 = some u9 := by
  obtain ⟨h0, g0, g1, g2, g3, g4, g5, g6, g7, g8, g9⟩ := h
  exact ⟨below_step h0 hb, (hb.cell (cell_size g0)).trans g0, (hb.cell (cell_size g1)).trans g1, (hb.cell (cell_size g2)).trans g2, (hb.cell (cell_size g3)).trans g3, (hb.cell (cell_size g4)).trans g4, (hb.cell (cell_size g5)).trans g5, (hb.cell (cell_size g6)).trans g6, (hb.cell (cell_size g7)).trans g7, (hb.cell (cell_size g8)).trans g8, (hb.cell (cell_size g9)).trans g9⟩
set_option maxRecDepth 100000 in
set_option maxHeartbeats 3200000 in
theorem chk1_any (S : Sp) (x : St) (pv : Value) (p : Pt) (Bc Bm n p4 p1 p10 : Nat) (v1 v2 v3 v4 : Value) (f : Nat → Value) (ks : List (List UInt8 × List UInt8)) (w : World) (hc : Chk w Bc Bm n v1 v2 v3 v4 ks) (hsp : SpRd w v1 v2 v3 v4 f S) (hs : S.rs.length ≤ 1000)
    (h4 : Blk w p4 65 #[.pointer (some ⟨Bc, 0, none⟩)]) (h1 : Blk w p1 27 #[v1, v2, v3, v4]) (h10 : Blk w p10 61 #[.string x.name, .int .i64 x.div, .int .i64 x.num, .int .i64 x.den, pv])
    (hd0 : 0 ≤ x.div) (hd : x.div < S.ds.length) (hdv : ∀ d ∈ S.ds, dvE d = 0) (hrv : ∀ r ∈ S.rs, rkE r = 0) :
    Calls Tryd.prog 25 #[.agg #[.int .i64 p.rank, .int .i64 p.shift, .int .i64 p.lo, .int .i64 p.hi], .pointer (some ⟨p4, 0, none⟩), .pointer (some ⟨p1, 0, none⟩), .pointer (some ⟨p10, 0, none⟩)] w fun e w' => e = .returned (.int .i64 (ptE S x p)) ∧ Below w.heap.size w w' := by
  have hb0 : Below w.heap.size w (w.alloc (.cells #[.int .i64 p.rank, .int .i64 p.shift, .int .i64 p.lo, .int .i64 p.hi] 75)) := (Below.refl _ _).alloc (Nat.le_refl _) _
  have k0 : Blk (w.alloc (.cells #[.int .i64 p.rank, .int .i64 p.shift, .int .i64 p.lo, .int .i64 p.hi] 75)) w.heap.size 75 #[.int .i64 p.rank, .int .i64 p.shift, .int .i64 p.lo, .int .i64 p.hi] := Blk.new _ _ _
  have hc0 := hc.below hb0
  have hsp0 := hsp.later hb0
  have k4 := (h4.below hb0).cell 0
  have k1 := (h1.below hb0).cell 0
  have k10 := (h10.below hb0).cell 1
  have q0 := k0.cell 0
  have q1 := k0.cell 1
  have q2 := k0.cell 2
  have q3 := k0.cell 3
  obtain ⟨i, hi⟩ := Int.eq_ofNat_of_zero_le hd0
  have hil : i < S.ds.length := by omega
  obtain ⟨b, o, c2, rfl, hlt, r0, r1, r2⟩ := hsp0.dAt i hil
  have hti : x.div.toNat = i := by omega
  have CP := fun W (hW : Below (w.alloc (.cells #[.int .i64 p.rank, .int .i64 p.shift, .int .i64 p.lo, .int .i64 p.hi] 75)).heap.size (w.alloc (.cells #[.int .i64 p.rank, .int .i64 p.shift, .int .i64 p.lo, .int .i64 p.hi] 75)) W) =>
    part_any S x S.ds[i] p Bc Bm n _ v2 v3 v4 f ks W (hc0.below hW) (hsp0.later hW) hs (by omega) (by simp only [hti]) (hdv _ (List.getElem_mem hil)) hrv
  have HC := Lib.hid CP
  have hi1 : (0 : Int) ≤ (i : Int) := by omega
  have hi2 : (i : Int) < (S.ds.length : Int) := by omega
  have hdr : Below (w.alloc (.cells #[.int .i64 p.rank, .int .i64 p.shift, .int .i64 p.lo, .int .i64 p.hi] 75)).heap.size (w.alloc (.cells #[.int .i64 p.rank, .int .i64 p.shift, .int .i64 p.lo, .int .i64 p.hi] 75)) (w.alloc (.cells #[.int .i64 p.rank, .int .i64 p.shift, .int .i64 p.lo, .int .i64 p.hi] 75)).drew := (Below.refl _ _).drew
  rw [hi] at k10
  generalize S.ds[i] = d at *
  clear CP hti hi hd hd0 hdv hrv hsp hsp0 hc0 hc h4 h1 h10 k0
  go_enter Tryd.func25, Tryd.ntmps25
  go_wp2_with fail
  go_region_held3 (fun w' => Below (w.alloc (.cells #[.int .i64 p.rank, .int .i64 p.shift, .int .i64 p.lo, .int .i64 p.hi] 75)).heap.size (w.alloc (.cells #[.int .i64 p.rank, .int .i64 p.shift, .int .i64 p.lo, .int .i64 p.hi] 75)) w' ∧ w'.cell? ⟨p4, 0, none⟩ = some (.pointer (some ⟨Bc, 0, none⟩)) ∧ w'.cell? ⟨p1, 0, none⟩ = some (.slice (some ⟨b, o, none⟩) S.ds.length c2) ∧ w'.cell? ⟨p10, 1, none⟩ = some (.int .i64 i) ∧ w'.cell? ⟨b, o + i * 3, none⟩ = some (.string d.name) ∧ w'.cell? ⟨b, o + i * 3 + 1, none⟩ = some (.int .i64 d.lo) ∧ w'.cell? ⟨b, o + i * 3 + 2, none⟩ = some (.int .i64 d.hi) ∧ w'.cell? ⟨w.heap.size, 0, none⟩ = some (.int .i64 p.rank) ∧ w'.cell? ⟨w.heap.size, 1, none⟩ = some (.int .i64 p.shift) ∧ w'.cell? ⟨w.heap.size, 2, none⟩ = some (.int .i64 p.lo) ∧ w'.cell? ⟨w.heap.size, 3, none⟩ = some (.int .i64 p.hi)) (first | exact ⟨hdr, k4, k1, k10, r0, r1, r2, q0, q1, q2, q3⟩ | assumption) (first | (go_at_call 26; refine (HC.out _ (by first | exact And.left (by assumption) | exact hdr)).mono ?_; rintro e w2 ⟨rfl, hb2⟩; have hn := held_step10 (by assumption) hb2; clear hb2))
  go_wp2
  go_ret
  exact ⟨rfl, below_step hb0 hn.1⟩
/-- The blocks of a call of Check: the specification's, the result's, the map, the checker, the pointer to it. -/
structure CkSt (w : World) (v1 v2 v3 v4 : Value) (n : Nat) (ks : List (List UInt8 × List UInt8)) (W : World) : Prop where
  spec : Blk W w.heap.size 27 #[v1, v2, v3, v4]
  res : Blk W (w.heap.size + 1) 31 #[.int .i64 0, .int .i64 0, .int .i64 0]
  chk : Chk W (w.heap.size + 3) (w.heap.size + 2) n v1 v2 v3 v4 ks
  ptr : Blk W (w.heap.size + 4) 65 #[.pointer (some ⟨w.heap.size + 3, 0, none⟩)]
  low : Below w.heap.size w W
/-- What stays in any case. -/
structure CkWk (w : World) (v1 v2 v3 v4 : Value) (W : World) : Prop where
  spec : Blk W w.heap.size 27 #[v1, v2, v3, v4]
  res : Blk W (w.heap.size + 1) 31 #[.int .i64 0, .int .i64 0, .int .i64 0]
  ptr : Blk W (w.heap.size + 4) 65 #[.pointer (some ⟨w.heap.size + 3, 0, none⟩)]
  low : Below w.heap.size w W
theorem CkSt.below {w W W' : World} {v1 v2 v3 v4 : Value} {n : Nat} {ks : List (List UInt8 × List UInt8)} (h : CkSt w v1 v2 v3 v4 n ks W) (hb : Below W.heap.size W W') : CkSt w v1 v2 v3 v4 n ks W' :=
  ⟨h.spec.below hb, h.res.below hb, h.chk.below hb, h.ptr.below hb, below_step h.low hb⟩
theorem CkWk.below {w W W' : World} {v1 v2 v3 v4 : Value} (h : CkWk w v1 v2 v3 v4 W) (hb : Below W.heap.size W W') : CkWk w v1 v2 v3 v4 W' :=
  ⟨h.spec.below hb, h.res.below hb, h.ptr.below hb, below_step h.low hb⟩
theorem CkSt.weak {w W : World} {v1 v2 v3 v4 : Value} {n : Nat} {ks : List (List UInt8 × List UInt8)} (h : CkSt w v1 v2 v3 v4 n ks W) : CkWk w v1 v2 v3 v4 W := ⟨h.spec, h.res, h.ptr, h.low⟩
theorem CkWk.grown {w W W' : World} {v1 v2 v3 v4 : Value} (h : CkWk w v1 v2 v3 v4 W) (hg : W.grownBy W' (some (w.heap.size + 2))) : CkWk w v1 v2 v3 v4 W' :=
  ⟨h.spec.kept hg (by simp), h.res.kept hg (by simp), h.ptr.kept hg (by simp), h.low.grown hg h.low.size (fun k e => by have := Option.some.inj e; omega)⟩
/-- Behind a check of a named element. -/
theorem CkSt.ends {w W W' : World} {v1 v2 v3 v4 : Value} {n : Nat} {k nm : List UInt8} {ks : List (List UInt8 × List UInt8)} {E : Int} {e : Ending} (h : CkSt w v1 v2 v3 v4 n ks W) (hc : CkEnds (w.heap.size + 3) (w.heap.size + 2) n v1 v2 v3 v4 k nm ks E W e W') :
    e = .returned (.int .i64 E) ∧ CkWk w v1 v2 v3 v4 W' ∧ (E = 0 → CkSt w v1 v2 v3 v4 (n + 1) ((k, nm) :: ks) W') := by
  obtain ⟨h1, h2, h3⟩ := hc
  have hw := h.weak.grown h2
  exact ⟨h1, hw, fun h0 => ⟨hw.spec, hw.res, h3 h0, hw.ptr, hw.low⟩⟩
theorem ckD (S : Sp) (ok : SpOk S) (w : World) (v1 v2 v3 v4 : Value) (f : Nat → Value) (hsp : SpRd w v1 v2 v3 v4 f S) (W : World) (h0 : CkSt w v1 v2 v3 v4 0 [] W) :
    Calls Tryd.prog 20 #[v1, .func (.func 21) #[.pointer (some ⟨w.heap.size + 3, 0, none⟩)] #[]] W (FstEnds (errD S) S.ds.length (fun k W => CkSt w v1 v2 v3 v4 k (ksD S k) W) (CkWk w v1 v2 v3 v4)) := by
  refine firstD_any S.ds.length ok.d v1 (errD S) (w.heap.size + 3) _ _ W (fun k _ _ h hb => h.below hb) (fun _ _ h hb => h.below hb) (fun k _ h => h.weak) hsp.forms.1 (fun k hk => ⟨S.ds[k], fun W hW => ⟨(hsp.later hW.low).dAt k hk, ?_⟩⟩) h0
  have C := division_any S.ds[k] (w.heap.size + 3) (w.heap.size + 2) k v1 v2 v3 v4 (ksD S k) W hW.chk (by have := ok.d; omega) (ok.dn _ (List.getElem_mem hk))
  rw [seenD hk] at C
  refine C.mono fun e w' h => ?_
  have := hW.ends h
  rwa [show ksD S (k + 1) = (dvK, L S.ds[k].name) :: ksD S k from keysG_take gD S.ds k hk []]
theorem ckR (S : Sp) (ok : SpOk S) (w : World) (t : Tabs w) (v1 v2 v3 v4 : Value) (f : Nat → Value) (hsp : SpRd w v1 v2 v3 v4 f S) (W : World) (h0 : CkSt w v1 v2 v3 v4 S.ds.length (ksD S S.ds.length) W) :
    Calls Tryd.prog 22 #[v2, .func (.func 23) #[.pointer (some ⟨w.heap.size + 3, 0, none⟩)] #[]] W (FstEnds (errR S) S.rs.length (fun k W => CkSt w v1 v2 v3 v4 (S.ds.length + k) (ksR S k) W) (CkWk w v1 v2 v3 v4)) := by
  refine firstR_any S.rs.length ok.r v2 (errR S) (w.heap.size + 3) _ _ W (fun k _ _ h hb => h.below hb) (fun _ _ h hb => h.below hb) (fun k _ h => h.weak) hsp.forms.2.1 (fun k hk => ⟨S.rs[k], fun W hW => ⟨(hsp.later hW.low).rAt k hk, ?_⟩⟩) h0
  have C := rank_any S.rs[k] (w.heap.size + 3) (w.heap.size + 2) (S.ds.length + k) v1 v2 v3 v4 (ksR S k) W (t.below hW.low) (t.lt (by omega)) hW.chk (by have := ok.d; have := ok.r; omega) (ok.rn _ (List.getElem_mem hk))
  rw [seenR hk] at C
  refine C.mono fun e w' h => ?_
  have := hW.ends h
  rwa [show ksR S (k + 1) = (rkK, L S.rs[k].name) :: ksR S k from keysG_take gR S.rs k hk _]
theorem ckC (S : Sp) (ok : SpOk S) (w : World) (v1 v2 v3 v4 : Value) (f : Nat → Value) (hsp : SpRd w v1 v2 v3 v4 f S) (W : World) (h0 : CkSt w v1 v2 v3 v4 (S.ds.length + S.rs.length + S.ss.length) (ksS S S.ss.length) W) :
    Calls Tryd.prog 28 #[v4, .func (.func 29) #[.pointer (some ⟨w.heap.size + 3, 0, none⟩)] #[]] W (FstEnds (errC S) S.cs.length (fun k W => CkSt w v1 v2 v3 v4 (S.ds.length + S.rs.length + S.ss.length + k) (ksC S k) W) (CkWk w v1 v2 v3 v4)) := by
  refine firstC_any S.cs.length ok.c v4 (errC S) (w.heap.size + 3) _ _ W (fun k _ _ h hb => h.below hb) (fun _ _ h hb => h.below hb) (fun k _ h => h.weak) hsp.forms.2.2.2 (fun k hk => ⟨S.cs[k], fun W hW => ⟨(hsp.later hW.low).cAt k hk, ?_⟩⟩) h0
  obtain ⟨a1, c1, e1⟩ := hsp.forms.1
  subst e1
  have C := coupler_any S.cs[k] S (w.heap.size + 3) (w.heap.size + 2) (S.ds.length + S.rs.length + S.ss.length + k) a1 c1 v2 v3 v4 (ksC S k) W hW.chk (by have := ok.d; have := ok.r; have := ok.s; have := ok.c; omega) (ok.cn _ (List.getElem_mem hk)) ok.d
  rw [seenC hk] at C
  refine C.mono fun e w' h => ?_
  have := hW.ends h
  rwa [show ksC S (k + 1) = (cpK, L S.cs[k].name) :: ksC S k from keysG_take gC S.cs k hk _]
/-- A stop's own block beside. -/
theorem ckP (S : Sp) (ok : SpOk S) (w : World) (v1 v2 v3 v4 : Value) (f : Nat → Value) (hsp : SpRd w v1 v2 v3 v4 f S) (n i p10 : Nat) (hi : i < S.ss.length) (ks : List (List UInt8 × List UInt8)) (W : World) (h0 : CkSt w v1 v2 v3 v4 n ks W)
    (h10 : Blk W p10 61 #[.string S.ss[i].name, .int .i64 S.ss[i].div, .int .i64 S.ss[i].num, .int .i64 S.ss[i].den, f i]) (he : errS S i = 0) (hdv : ∀ d ∈ S.ds, dvE d = 0) (hrv : ∀ r ∈ S.rs, rkE r = 0) :
    Calls Tryd.prog 27 #[f i, .func (.func 25) #[] #[.pointer (some ⟨w.heap.size + 4, 0, none⟩), .pointer (some ⟨w.heap.size, 0, none⟩), .pointer (some ⟨p10, 0, none⟩)]] W
      (FstEnds (errP S S.ss[i]) S.ss[i].parts.length (fun _ W => CkSt w v1 v2 v3 v4 n ks W ∧ Blk W p10 61 #[.string S.ss[i].name, .int .i64 S.ss[i].div, .int .i64 S.ss[i].num, .int .i64 S.ss[i].den, f i])
        (fun W => CkSt w v1 v2 v3 v4 n ks W)) := by
  have hd := errS_div hi he
  obtain ⟨a, c, ef⟩ := (hsp.p i hi).form
  refine firstP_any S.ss[i].parts.length (ok.sp _ (List.getElem_mem hi)) (f i) (errP S S.ss[i]) (w.heap.size + 4) w.heap.size p10 _ _ W (fun k _ _ h hb => ⟨h.1.below hb, h.2.below hb⟩) (fun _ _ h hb => h.below hb) (fun k _ h => h.1) ⟨a, c, by simpa using ef⟩ (fun k hk => ⟨S.ss[i].parts[k], fun W hW => ⟨(hsp.later hW.1.low).pAt i hi k hk, ?_⟩⟩) ⟨h0, h10⟩
  have C := chk1_any S S.ss[i] (f i) S.ss[i].parts[k] (w.heap.size + 3) (w.heap.size + 2) n (w.heap.size + 4) w.heap.size p10 v1 v2 v3 v4 f ks W hW.1.chk (hsp.later hW.1.low) ok.r hW.1.ptr hW.1.spec hW.2 hd.1 hd.2 hdv hrv
  rw [← errP_is hk] at C
  exact C.mono fun e w' h => ⟨h.1, hW.1.below h.2, fun _ => ⟨hW.1.below h.2, hW.2.below h.2⟩⟩
end Go.Proofs.YtkddeliifadcoaaDoor
