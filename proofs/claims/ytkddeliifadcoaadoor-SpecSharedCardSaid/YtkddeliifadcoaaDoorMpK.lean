/-
  KEYS: structs of numbers; pipes.
-/
import Derived.Test.YtkddeliifadcoaaDoorMp
import Derived.Test.YtkddeliifadcoaaDoorE6
namespace Go.Proofs.YtkddeliifadcoaaDoor
open Go.RowKit
section
variable {κ : Type} [DecidableEq κ] {P : Program} {kt : TypeId} {ek : κ → Value}
theorem run_asking (heq : ∀ x y w, (Op.equal kt (ek x) (ek y)).run P w = .ok (decide (x = y)) w) (x : κ) (w : World) : ∀ (es : List MapEntry) (l : List κ) (i : Nat), es.map (·.key) = l.map ek → (Instr.findAsking kt (ek x) es i).run P w = .ok (findAt x l es i) w
  | [], [], i, _ => by simp [Instr.findAsking, findAt]
  | [], k :: l, i, h => by simp at h
  | e :: es, [], i, h => by simp at h
  | e :: es, k :: l, i, h => by
    rw [List.map_cons, List.map_cons, List.cons.injEq] at h
    have ih := run_asking heq x w es l (i + 1) h.2
    have hq := heq x k w
    rw [← h.1] at hq
    by_cases hx : x = k
    · subst hx
      rw [decide_eq_true rfl] at hq
      simp [Instr.findAsking, hq, Result.andThen, findAt]
    · rw [decide_eq_false hx] at hq
      simp [Instr.findAsking, hq, Result.andThen, findAt, hx, ih]
theorem mapK_agg {d : TypeDesc} (hd : P.underlying kt = some d) (hnow : ∀ x y, Instr.sameNow d (ek x) (ek y) = none) (heq : ∀ x y w, (Op.equal kt (ek x) (ek y)).run P w = .ok (decide (x = y)) w)
    (hchk : ∀ b x w, (Instr.checkKey b 10000 kt (ek x)).run P w = .ok () w) (hbits : ∀ x, Instr.sameBits 10000 (ek x) (ek x) = true) : MapK P kt ek where
  chk := hchk
  bits := hbits
  find x es l w h := by
    have ha := run_asking heq x w es l 0 h
    cases es with
    | nil =>
      cases l with
      | nil => simp [Instr.findKey, run_underlying hd, Instr.findNow, findAt, Result.andThen]
      | cons k l => simp at h
    | cons e es =>
      cases l with
      | nil => simp at h
      | cons k l =>
        have h1 : e.key = ek k := (List.cons.inj h).1
        have h2 : Instr.findNow d (ek x) (e :: es) 0 = none := by rw [Instr.findNow, h1, hnow x k]
        simp [Instr.findKey, run_underlying hd, h2, Result.andThen, ha]
end
def ekP (p : Pp) : Value := .agg #[.int .i64 p.1, .int .i64 p.2]
theorem run_equalPp (p q : Pp) (w : World) : (Op.equal 46 (ekP p) (ekP q)).run Tryd.prog w = .ok (decide (p = q)) w := by
  have h := run_eqPp p.1 p.2 q.1 q.2 w
  rw [run_eql_struct] at h
  rw [pp_eq] at h
  show (Op.equalIn 10000 46 _ _).run Tryd.prog w = _
  unfold ekP
  cases hr : (Op.equalIn 10000 46 (.agg #[.int .i64 p.1, .int .i64 p.2]) (.agg #[.int .i64 q.1, .int .i64 q.2])).run Tryd.prog w with
  | ok b w' =>
    rw [hr] at h
    simp only [Result.andThen, Result.ok.injEq, Value.bool.injEq] at h
    rw [h.1, h.2]
  | _ => rw [hr] at h; simp [Result.andThen] at h
theorem chk_pp (b : Bool) (x : Pp) (w : World) (n : Nat) : (Instr.checkKey b (n + 1 + 1) 46 (ekP x)).run Tryd.prog w = .ok () w := by
  unfold ekP
  simp [Instr.checkKey, run_underlying Tryd.underlying46, run_underlying Tryd.underlying3, go_sem, part, Result.andThen]
theorem pp_keys : MapK Tryd.prog 46 ekP :=
  mapK_agg Tryd.underlying46 (fun _ _ => rfl) run_equalPp (fun b x w => chk_pp b x w 9998) (fun x => by unfold ekP; simp [Instr.sameBits])
end Go.Proofs.YtkddeliifadcoaaDoor
