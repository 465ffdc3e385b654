/-
  PLAIN: specifications: what Check, Pipes and PipesOf say of them. No program in sight.
-/
import Derived.Test.YtppccacfdpkkgaaGreatDoorPlain
namespace Go.Proofs.YtppccacfdpkkgaaGreatDoor
structure Dv where
  name : ByteArray
  lo : Int
  hi : Int
structure Rk where
  name : ByteArray
  kind : Int
  num : Int
  den : Int
  low : Int
  cnt : Int
structure Pt where
  rank : Int
  shift : Int
  lo : Int
  hi : Int
structure St where
  name : ByteArray
  div : Int
  num : Int
  den : Int
  parts : List Pt
structure Cp where
  name : ByteArray
  frm : Int
  to : Int
  shift : Int
  only : Int
  thr : Bool
structure Sp where
  ds : List Dv
  rs : List Rk
  ss : List St
  cs : List Cp
def FeetOk (n d : Int) : Prop := 1 ≤ d ∧ d ≤ 15 ∧ 1 ≤ n ∧ n ≤ 64 * d ∧ Int.gcd n d = 1
instance (n d : Int) : Decidable (FeetOk n d) := by unfold FeetOk; infer_instance
/-- The error of a name among earlier names, or what comes next. -/
def nmE (nm : ByteArray) (earlier : List ByteArray) (next : Int) : Int := if nameB (L nm) = false then 6 else if L nm ∈ earlier.map L then 8 else next
def dvE (d : Dv) : Int := if 0 ≤ d.lo ∧ d.lo ≤ 127 ∧ d.lo ≤ d.hi ∧ d.hi ≤ 127 ∧ d.hi - d.lo ≤ 60 then 0 else 7
def rkE (r : Rk) : Int := if 1 ≤ r.kind ∧ r.kind ≤ 4 ∧ FeetOk r.num r.den then (if 1 ≤ r.cnt ∧ r.cnt ≤ 97 ∧ 0 ≤ r.low ∧ r.low + r.cnt ≤ 128 then 0 else 7) else 2
def stE (x : St) : Int := if FeetOk x.num x.den ∧ 0 < x.parts.length then (if x.parts.length ≤ 12 then 0 else 3) else 2
def ptE (S : Sp) (x : St) (p : Pt) : Int :=
  if 0 ≤ p.rank ∧ p.rank < S.rs.length then
    match S.ds[x.div.toNat]?, S.rs[p.rank.toNat]? with
    | some d, some r => if d.lo ≤ p.lo ∧ p.hi ≤ d.hi ∧ p.lo ≤ p.hi ∧ -96 ≤ p.shift ∧ p.shift ≤ 96 then (if r.low ≤ p.lo + p.shift ∧ p.hi + p.shift < r.low + r.cnt then 0 else 4) else 7
    | _, _ => 0
  else 4
def cpE (S : Sp) (c : Cp) : Int :=
  if 0 ≤ c.frm ∧ c.frm < S.ds.length ∧ 0 ≤ c.to ∧ c.to < S.ds.length then
    (if (c.shift = -12 ∨ c.shift = 12 ∨ c.shift = 0 ∧ c.frm ≠ c.to) ∧ 0 ≤ c.only ∧ c.only ≤ 2 ∧ ¬ (c.thr = true ∧ c.only ≠ 0) then 0 else 2)
  else 4
def errD (S : Sp) (i : Nat) : Int := match S.ds[i]? with | none => 0 | some d => nmE d.name ((S.ds.take i).map (·.name)) (dvE d)
def errR (S : Sp) (i : Nat) : Int := match S.rs[i]? with | none => 0 | some r => nmE r.name ((S.rs.take i).map (·.name)) (rkE r)
def errS (S : Sp) (i : Nat) : Int := match S.ss[i]? with
  | none => 0
  | some x => if nameB (L x.name) = false then 6 else if 0 ≤ x.div ∧ x.div < S.ds.length then nmE x.name (((S.ss.take i).filter fun y => decide (y.div = x.div)).map (·.name)) (stE x) else 4
def errP (S : Sp) (x : St) (k : Nat) : Int := match x.parts[k]? with | none => 0 | some p => ptE S x p
def errC (S : Sp) (i : Nat) : Int := match S.cs[i]? with | none => 0 | some c => nmE c.name ((S.cs.take i).map (·.name)) (cpE S c)
/-- The first place below n where f is not 0. -/
def fst0 (f : Nat → Int) (n : Nat) : Option Nat := (List.range n).find? fun i => decide (f i ≠ 0)
theorem fst0_none {f : Nat → Int} {n : Nat} : fst0 f n = none ↔ ∀ i, i < n → f i = 0 := by
  unfold fst0
  rw [List.find?_eq_none]
  simp
theorem fst0_some {f : Nat → Int} {n i : Nat} (h1 : i < n) (h2 : f i ≠ 0) (h3 : ∀ j, j < i → f j = 0) : fst0 f n = some i := by
  unfold fst0
  rw [List.find?_range_eq_some]
  exact ⟨by simpa using h2, by simpa using h1, fun j hj => by simpa using h3 j hj⟩
theorem fst0_is {f : Nat → Int} {n i : Nat} (h : fst0 f n = some i) : i < n ∧ f i ≠ 0 ∧ ∀ j, j < i → f j = 0 := by
  unfold fst0 at h
  rw [List.find?_range_eq_some] at h
  exact ⟨by simpa using h.2.1, by simpa using h.1, fun j hj => by simpa using h.2.2 j hj⟩
/-- The error of a stop with its parts: the part (from 1 on, 0: the stop), the number. -/
def stopE (S : Sp) (i : Nat) : Int × Int := match S.ss[i]? with
  | none => (0, 0)
  | some x => if errS S i ≠ 0 then (0, errS S i) else match fst0 (errP S x) x.parts.length with
    | none => (0, 0)
    | some k => ((k : Int) + 1, errP S x k)
/-- What Check says: what, index, part; the number. -/
def checkP (S : Sp) : (Int × Int × Int) × Int :=
  if 6 < S.ds.length ∨ 40 < S.rs.length ∨ 80 < S.ss.length ∨ 24 < S.cs.length then ((0, 0, 0), 3) else
  match fst0 (errD S) S.ds.length with
  | some i => ((1, i, 0), errD S i)
  | none => match fst0 (errR S) S.rs.length with
    | some i => ((2, i, 0), errR S i)
    | none => match fst0 (fun i => (stopE S i).2) S.ss.length with
      | some i => ((3, i, (stopE S i).1), (stopE S i).2)
      | none => match fst0 (errC S) S.cs.length with
        | some i => ((4, i, 0), errC S i)
        | none => ((0, 0, 0), 0)
end Go.Proofs.YtppccacfdpkkgaaGreatDoor
