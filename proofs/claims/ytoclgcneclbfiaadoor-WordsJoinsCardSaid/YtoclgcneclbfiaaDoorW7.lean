/-
  WALKS: pieces: the function that yields the pieces of a line.
-/
import Derived.Test.YtoclgcneclbfiaaDoorW6
import Derived.Test.YtoclgcneclbfiaaDoorRange
import Derived.Shelf.Abstract
import Derived.Shelf.RegionOpen
import Derived.OwnWalkIn
import Derived.TacticsInMore
import Derived.LoopNIn
import Derived.LoopIn
namespace Go.Proofs.YtoclgcneclbfiaaDoor
open Go.RowKit Go.Shelf

/-- A string that is not too long: what a round may know of what it is handed. -/
abbrev Sm := { x : ByteArray // x.size ≤ 1048676 }
def LS (x : Sm) : List UInt8 := L x.1
def lenOf : Value → Nat | .string s => s.size | _ => 0
/-- What a round keeps of the iterator's own cells. -/
def KpB (Be Bw : Nat) (W W' : World) : Prop := W'.heap[Be]? = W.heap[Be]? ∧ W'.heap[Bw]? = W.heap[Bw]?
def endsV (Bw : Nat) : Value := .func (.func 69) #[] #[.pointer (some ⟨Bw, 0, none⟩)]

set_option maxRecDepth 100000 in
set_option maxHeartbeats 1000000 in
theorem pieces2_in (n : Nat) (hn : 1 ≤ n) (l Bl Be Bw : Nat) (line : ByteArray) (hs : line.size ≤ 1048676) (J Jx : List Sm → World → Prop)
    (hJa : ∀ s A B, J s A → A.grownBy B (some Bw) → J s B)
    (hY : ∀ pre x W, J pre W → pre.length < (pieces (L line)).length → YieldAt Fence.wide (n - 1) Tryd.prog l #[.string x.1] W fun e W' =>
      (e = .returned (.bool true) ∧ J (pre ++ [x]) W' ∧ KpB Be Bw W W') ∨ (e = .returned (.bool false) ∧ Jx (pre ++ [x]) W'))
    (W : World) (hBl : W.cell? ⟨Bl, 0, none⟩ = some (.string line)) (hBe : Boxed W Be 89 (endsV Bw)) (hBw : Boxed W Bw 4 (.bool false)) (hne : Be ≠ Bw) (h0 : J [] W) :
    CallsIn Fence.wide n Tryd.prog 70 #[.func (.yield l) #[] #[], .pointer (some ⟨Bl, 0, none⟩), .pointer (some ⟨Be, 0, none⟩)] W fun e W' => (∃ v, e = .returned v) ∧
      ((∃ ys : List Sm, ys.map LS = pieces (L line) ∧ J ys W') ∨ (∃ pre : List Sm, pre.map LS <+: pieces (L line) ∧ Jx pre W')) := by
  refine callsIn_of_wp Tryd.func70 rfl trivial ?_ rfl
  simp only [Tryd.ntmps70, List.size_toArray, List.length_cons, List.length_nil, Nat.reduceAdd, Nat.reduceSub, Array.replicate_succ, Array.replicate_zero, List.push_toArray, List.append_toArray, List.nil_append, List.cons_append]
  gi_wp2
  gi_loopw [4, 5] (fun r _ wr => ∃ (pre : List Sm) (rest : ByteArray) (f : Nat), r = .string rest ∧ rest.size < f ∧ rest.size ≤ 1048676 ∧ pre.map LS ++ piecesF f (L rest) = pieces (L line) ∧ Boxed wr Be 89 (endsV Bw) ∧ Boxed wr Bw 4 (.bool false) ∧ J pre wr)
    (fun r _ _ => lenOf r)
  case atStart =>
    exact ⟨[], line, line.size + 1, rfl, by omega, hs, by rw [List.map_nil, List.nil_append, pieces, L_length], hBe, hBw, h0⟩
  case round =>
    obtain ⟨pre, rest, f, rfl, hf, hrs, hx, hbe, hbw, hJs⟩ := hrel
    have hce := hbe.cell
    unfold endsV at hce
    obtain ⟨f, rfl⟩ : ∃ g, f = g + 1 := ⟨f - 1, by omega⟩
    rcases scan_range (L rest) false 0 with hi | ⟨hi1, hi2, hi3⟩
    · rw [piecesF_last (by omega)] at hx
      have hlen : pre.length < (pieces (L line)).length := by rw [← hx]; simp
      have HX := Lib.hid hx
      have HI := Lib.hid hi
      clear hx hi
      gi_wp2_with fail
      refine ⟨trivial, ?_⟩
      refine (callsIn_wide.2 (indexFunc_top rest false Bw wr hbw)).mono ?_
      rintro e W2 ⟨rfl, hon, hbx⟩
      rw [HI.out]
      obtain ⟨fn, tmps, assign, body, hy, hR⟩ := hY pre ⟨rest, hrs⟩ W2 (hJa _ _ _ hJs hon) hlen
      gi_wp2
      refine hR.mono ?_
      rintro e W3 (⟨rfl, hJ3, hk3⟩ | ⟨rfl, hJx3⟩)
      · gi_wp2
        refine bodyPost_ret (results_none rfl _ _ _) rfl ?_
        exact ⟨⟨_, rfl⟩, .inl ⟨pre ++ [⟨rest, hrs⟩], by rw [← HX.out]; simp [LS], hJ3⟩⟩
      · gi_wp2
        refine bodyPost_ret (results_none rfl _ _ _) rfl ?_
        exact ⟨⟨_, rfl⟩, .inr ⟨pre ++ [⟨rest, hrs⟩], by rw [← HX.out]; simp [LS], hJx3⟩⟩
    · obtain ⟨k, hk⟩ : ∃ k : Nat, (scan false 0 (L rest)).1 = k := ⟨(scan false 0 (L rest)).1.toNat, by omega⟩
      rw [L_length] at hi2
      rw [piecesF_more (by omega), hk] at hx
      have hkl : k < rest.size := by omega
      have hxs : (rest.extract 0 k).size ≤ 1048676 := by simp; omega
      have hlen : pre.length < (pieces (L line)).length := by rw [← hx]; simp
      have HX := Lib.hid hx
      have HI := Lib.hid hk
      have H3 := Lib.hid hi3
      clear hx hk hi1 hi2 hi3
      gi_wp2_with fail
      refine ⟨trivial, ?_⟩
      refine (callsIn_wide.2 (indexFunc_top rest false Bw wr hbw)).mono ?_
      rintro e W2 ⟨rfl, hon, hbx⟩
      rw [HI.out]
      rw [H3.out] at hbx
      obtain ⟨fn, tmps, assign, body, hy, hR⟩ := hY pre ⟨rest.extract 0 k, hxs⟩ W2 (hJa _ _ _ hJs hon) hlen
      have hbe2 : Boxed W2 Be 89 (endsV Bw) := (hon.block Be hbe.lt (fun e => by injection e with e; exact hne e)).trans hbe
      gi_wp2_with fail
      refine hR.mono ?_
      rintro e W3 (⟨rfl, hJ3, hk3⟩ | ⟨rfl, hJx3⟩)
      · have hb3 : Boxed W3 Be 89 (endsV Bw) := hk3.1.trans hbe2
        have hw3 : Boxed W3 Bw 4 (.bool false) := hk3.2.trans hbx
        have hsz : (rest.extract (k + 1) rest.size).size < rest.size := by simp; omega
        gi_wp2
        go_roundw
        case rel =>
          refine ⟨pre ++ [⟨rest.extract 0 k, hxs⟩], rest.extract (k + 1) rest.size, f, ?_, by omega, by omega, ?_, hb3, hw3, hJ3⟩
          · first | rfl | (congr 2; omega)
          · rw [← HX.out, List.map_append, List.append_assoc]
            congr 1
            simp only [LS, List.map_cons, List.map_nil, List.singleton_append, L_tail, L_head, Int.toNat_natCast]
        case measure => simp only [lenOf]; omega
      · gi_wp2
        refine bodyPost_ret (results_none rfl _ _ _) rfl ?_
        refine ⟨⟨_, rfl⟩, .inr ⟨pre ++ [⟨rest.extract 0 k, hxs⟩], ⟨piecesF f (List.drop (k + 1) (L rest)), ?_⟩, hJx3⟩⟩
        rw [← HX.out, List.map_append, List.append_assoc]
        simp only [LS, List.map_cons, List.map_nil, List.singleton_append, L_head, Int.toNat_natCast]
end Go.Proofs.YtoclgcneclbfiaaDoor
