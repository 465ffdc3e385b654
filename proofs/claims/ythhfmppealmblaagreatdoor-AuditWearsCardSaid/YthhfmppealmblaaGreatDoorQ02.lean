/-
  A part of the proof: SpP, Arr, SpL, Seen.
-/
import Derived.Test.YthhfmppealmblaaGreatDoorQ01
import Derived.Maps.Views
import Derived.Maps.OwnOps
import Derived.WideKeyArgs2
import Derived.StringKeys
namespace Go.Proofs.YthhfmppealmblaaGreatDoor
structure Dv where
 name : ByteArray
 lo : Int
 hi : Int
structure Rk where
 name : ByteArray
 kind : Int
 num : Int
 den : Int
 low : Int
 cnt : Int
structure Pt where
 rank : Int
 shift : Int
 lo : Int
 hi : Int
structure St where
 name : ByteArray
 div : Int
 num : Int
 den : Int
 parts : List Pt
structure Cp where
 name : ByteArray
 frm : Int
 to : Int
 shift : Int
 only : Int
 thr : Bool
structure Sp where
 ds : List Dv
 rs : List Rk
 ss : List St
 cs : List Cp
def FeetOk (n d : Int) : Prop:=1 ≤ d∧d ≤ 15∧1 ≤ n∧n ≤ 64 * d∧Int.gcd n d = 1
instance (n d : Int) : Decidable (FeetOk n d):=by unfold FeetOk; infer_instance
def nmE (nm : ByteArray) (earlier : List ByteArray) (next : Int) : Int:=if nameB (L nm) = false then 6 else if L nm ∈ earlier.map L then 8 else next
def dvE (d : Dv) : Int:=if 0 ≤ d.lo∧d.lo ≤ 127∧d.lo ≤ d.hi∧d.hi ≤ 127∧d.hi - d.lo ≤ 60 then 0 else 7
def rkE (r : Rk) : Int:=if 1 ≤ r.kind∧r.kind ≤ 4∧FeetOk r.num r.den then (if 1 ≤ r.cnt∧r.cnt ≤ 97∧0 ≤ r.low∧r.low + r.cnt ≤ 128 then 0 else 7) else 2
def stE (x : St) : Int:=if FeetOk x.num x.den∧0 < x.parts.length then (if x.parts.length ≤ 12 then 0 else 3) else 2
def ptE (S : Sp) (x : St) (p : Pt) : Int :=
 if 0 ≤ p.rank∧p.rank < S.rs.length then
  match S.ds[x.div.toNat]?,S.rs[p.rank.toNat]? with
  | some d,some r => if d.lo ≤ p.lo∧p.hi ≤ d.hi∧p.lo ≤ p.hi∧-96 ≤ p.shift∧p.shift ≤ 96 then (if r.low ≤ p.lo + p.shift∧p.hi + p.shift < r.low + r.cnt then 0 else 4) else 7
  | _,_ => 0
 else 4
def cpE (S : Sp) (c : Cp) : Int :=
 if 0 ≤ c.frm∧c.frm < S.ds.length∧0 ≤ c.to∧c.to < S.ds.length then
  (if (c.shift = -12 ∨ c.shift = 12 ∨ c.shift = 0∧c.frm ≠ c.to)∧0 ≤ c.only∧c.only ≤ 2∧¬ (c.thr = true∧c.only ≠ 0) then 0 else 2)
 else 4
def errD (S : Sp) (i : Nat) : Int:=match S.ds[i]? with | none => 0 | some d => nmE d.name ((S.ds.take i).map (·.name)) (dvE d)
def errR (S : Sp) (i : Nat) : Int:=match S.rs[i]? with | none => 0 | some r => nmE r.name ((S.rs.take i).map (·.name)) (rkE r)
def errS (S : Sp) (i : Nat) : Int:=match S.ss[i]? with
 | none => 0
 | some x => if nameB (L x.name) = false then 6 else if 0 ≤ x.div∧x.div < S.ds.length then nmE x.name (((S.ss.take i).filter fun y => decide (y.div = x.div)).map (·.name)) (stE x) else 4
def errP (S : Sp) (x : St) (k : Nat) : Int:=match x.parts[k]? with | none => 0 | some p => ptE S x p
def errC (S : Sp) (i : Nat) : Int:=match S.cs[i]? with | none => 0 | some c => nmE c.name ((S.cs.take i).map (·.name)) (cpE S c)
def fst0 (f : Nat→Int) (n : Nat) : Option Nat:=(List.range n).find? fun i => decide (f i ≠ 0)
theorem fst0_none {f : Nat→Int} {n : Nat} : fst0 f n = none ↔ ∀ i,i < n→f i = 0:=by
 unfold fst0
 rw [List.find?_eq_none]
 simp
theorem fst0_some {f : Nat→Int} {n i : Nat} (h1 : i < n) (h2 : f i ≠ 0) (h3 : ∀ j,j < i→f j = 0) : fst0 f n = some i:=by
 unfold fst0
 rw [List.find?_range_eq_some]
 exact ⟨by simpa using h2,by simpa using h1,fun j hj => by simpa using h3 j hj⟩
theorem fst0_is {f : Nat→Int} {n i : Nat} (h : fst0 f n = some i) : i < n∧f i ≠ 0∧∀ j,j < i→f j = 0:=by
 unfold fst0 at h
 rw [List.find?_range_eq_some] at h
 exact ⟨by simpa using h.2.1,by simpa using h.1,fun j hj => by simpa using h.2.2 j hj⟩
def stopE (S : Sp) (i : Nat) : Int × Int:=match S.ss[i]? with
 | none => (0,0)
 | some x => if errS S i ≠ 0 then (0,errS S i) else match fst0 (errP S x) x.parts.length with
  | none => (0,0)
  | some k => ((k : Int) + 1,errP S x k)
def checkP (S : Sp) : (Int × Int × Int) × Int :=
 if 6 < S.ds.length ∨ 40 < S.rs.length ∨ 80 < S.ss.length ∨ 24 < S.cs.length then ((0,0,0),3) else
 match fst0 (errD S) S.ds.length with
 | some i => ((1,i,0),errD S i)
 | none => match fst0 (errR S) S.rs.length with
  | some i => ((2,i,0),errR S i)
  | none => match fst0 (fun i => (stopE S i).2) S.ss.length with
   | some i => ((3,i,(stopE S i).1),(stopE S i).2)
   | none => match fst0 (errC S) S.cs.length with
    | some i => ((4,i,0),errC S i)
    | none => ((0,0,0),0)
end Go.Proofs.YthhfmppealmblaaGreatDoor
namespace Go.Proofs.YthhfmppealmblaaGreatDoor
open Go.RowKit
def ARd (w : World) (v : Value) (k : Nat) (rows : List (List Value)) : Prop:=∃ a c,v = .slice a rows.length c ∧
 ∀ i (h : i < rows.length),∃ b o,a = some ⟨b,o,none⟩∧b < w.heap.size∧∀ j u,rows[i][j]? = some u→w.cell? ⟨b,o + i * k + j,none⟩ = some u
theorem ARd.later {w w' : World} {v : Value} {k : Nat} {rows : List (List Value)} (h : ARd w v k rows) (hb : Below w.heap.size w w') : ARd w' v k rows:=by
 obtain ⟨a,c,rfl,hr⟩:=h
 refine ⟨a,c,rfl,fun i hi => ?_⟩
 obtain ⟨b,o,ha,hlt,hc⟩:=hr i hi
 exact ⟨b,o,ha,Nat.lt_of_lt_of_le hlt hb.size,fun j u hj => (hb.cell hlt).trans (hc j u hj)⟩
def dvC (d : Dv) : List Value:=[.string d.name,.int .i64 d.lo,.int .i64 d.hi]
def rkC (r : Rk) : List Value:=[.string r.name,.int .i64 r.kind,.int .i64 r.num,.int .i64 r.den,.int .i64 r.low,.int .i64 r.cnt]
def ptC (p : Pt) : List Value:=[.int .i64 p.rank,.int .i64 p.shift,.int .i64 p.lo,.int .i64 p.hi]
def stC (x : St) (v : Value) : List Value:=[.string x.name,.int .i64 x.div,.int .i64 x.num,.int .i64 x.den,v]
def cpC (c : Cp) : List Value:=[.string c.name,.int .i64 c.frm,.int .i64 c.to,.int .i64 c.shift,.int .i64 c.only,.bool c.thr]
structure SpOk (S : Sp) : Prop where
 d : S.ds.length ≤ 1000
 r : S.rs.length ≤ 1000
 s : S.ss.length ≤ 1000
 c : S.cs.length ≤ 1000
 dn : ∀ x ∈ S.ds,x.name.size ≤ 1000
 rn : ∀ x ∈ S.rs,x.name.size ≤ 1000
 sn : ∀ x ∈ S.ss,x.name.size ≤ 1000
 cn : ∀ x ∈ S.cs,x.name.size ≤ 1000
 sp : ∀ x ∈ S.ss,x.parts.length ≤ 1000
def i64 (n : Int) : Prop:=-9223372036854775808 ≤ n∧n ≤ 9223372036854775807
structure SpInt (S : Sp) : Prop where
 d : ∀ x ∈ S.ds,i64 x.lo∧i64 x.hi
 r : ∀ x ∈ S.rs,i64 x.kind∧i64 x.num∧i64 x.den∧i64 x.low∧i64 x.cnt
 s : ∀ x ∈ S.ss,i64 x.div∧i64 x.num∧i64 x.den
 p : ∀ x ∈ S.ss,∀ p ∈ x.parts,i64 p.rank∧i64 p.shift∧i64 p.lo∧i64 p.hi
 c : ∀ x ∈ S.cs,i64 x.frm∧i64 x.to∧i64 x.shift∧i64 x.only
structure SpRd (w : World) (v1 v2 v3 v4 : Value) (f : Nat→Value) (S : Sp) : Prop where
 d : ARd w v1 3 (S.ds.map dvC)
 r : ARd w v2 6 (S.rs.map rkC)
 s : ARd w v3 5 (S.ss.mapIdx fun i x => stC x (f i))
 c : ARd w v4 6 (S.cs.map cpC)
 p : ∀ i (h : i < S.ss.length),ARd w (f i) 4 (S.ss[i].parts.map ptC)
theorem SpRd.later {w w' : World} {v1 v2 v3 v4 : Value} {f : Nat→Value} {S : Sp} (h : SpRd w v1 v2 v3 v4 f S) (hb : Below w.heap.size w w') : SpRd w' v1 v2 v3 v4 f S :=
 ⟨h.d.later hb,h.r.later hb,h.s.later hb,h.c.later hb,fun i hi => (h.p i hi).later hb⟩
theorem ARd.at {w : World} {v : Value} {k : Nat} {rows : List (List Value)} (h : ARd w v k rows) (i : Nat) (hi : i < rows.length) : ∃ b o c,v = .slice (some ⟨b,o,none⟩) rows.length c∧b < w.heap.size ∧
  ∀ j u,rows[i][j]? = some u→w.cell? ⟨b,o + i * k + j,none⟩ = some u:=by
 obtain ⟨a,c,rfl,hr⟩:=h
 obtain ⟨b,o,rfl,hlt,hc⟩:=hr i hi
 exact ⟨b,o,c,rfl,hlt,hc⟩
theorem SpRd.dAt {w : World} {v1 v2 v3 v4 : Value} {f : Nat→Value} {S : Sp} (h : SpRd w v1 v2 v3 v4 f S) (i : Nat) (hi : i < S.ds.length) : ∃ b o c,v1 = .slice (some ⟨b,o,none⟩) S.ds.length c∧b < w.heap.size ∧
  w.cell? ⟨b,o + i * 3,none⟩ = some (.string S.ds[i].name)∧w.cell? ⟨b,o + i * 3 + 1,none⟩ = some (.int .i64 S.ds[i].lo)∧w.cell? ⟨b,o + i * 3 + 2,none⟩ = some (.int .i64 S.ds[i].hi):=by
 obtain ⟨b,o,c,e,hlt,hc⟩:=h.d.at i (by simpa using hi)
 rw [List.getElem_map] at hc
 exact ⟨b,o,c,by simpa using e,hlt,hc 0 _ rfl,hc 1 _ rfl,hc 2 _ rfl⟩
theorem SpRd.rAt {w : World} {v1 v2 v3 v4 : Value} {f : Nat→Value} {S : Sp} (h : SpRd w v1 v2 v3 v4 f S) (i : Nat) (hi : i < S.rs.length) : ∃ b o c,v2 = .slice (some ⟨b,o,none⟩) S.rs.length c∧b < w.heap.size ∧
  w.cell? ⟨b,o + i * 6,none⟩ = some (.string S.rs[i].name)∧w.cell? ⟨b,o + i * 6 + 1,none⟩ = some (.int .i64 S.rs[i].kind)∧w.cell? ⟨b,o + i * 6 + 2,none⟩ = some (.int .i64 S.rs[i].num)∧w.cell? ⟨b,o + i * 6 + 3,none⟩ = some (.int .i64 S.rs[i].den)∧w.cell? ⟨b,o + i * 6 + 4,none⟩ = some (.int .i64 S.rs[i].low)∧w.cell? ⟨b,o + i * 6 + 5,none⟩ = some (.int .i64 S.rs[i].cnt):=by
 obtain ⟨b,o,c,e,hlt,hc⟩:=h.r.at i (by simpa using hi)
 rw [List.getElem_map] at hc
 exact ⟨b,o,c,by simpa using e,hlt,hc 0 _ rfl,hc 1 _ rfl,hc 2 _ rfl,hc 3 _ rfl,hc 4 _ rfl,hc 5 _ rfl⟩
theorem SpRd.sAt {w : World} {v1 v2 v3 v4 : Value} {f : Nat→Value} {S : Sp} (h : SpRd w v1 v2 v3 v4 f S) (i : Nat) (hi : i < S.ss.length) : ∃ b o c,v3 = .slice (some ⟨b,o,none⟩) S.ss.length c∧b < w.heap.size ∧
  w.cell? ⟨b,o + i * 5,none⟩ = some (.string S.ss[i].name)∧w.cell? ⟨b,o + i * 5 + 1,none⟩ = some (.int .i64 S.ss[i].div)∧w.cell? ⟨b,o + i * 5 + 2,none⟩ = some (.int .i64 S.ss[i].num)∧w.cell? ⟨b,o + i * 5 + 3,none⟩ = some (.int .i64 S.ss[i].den)∧w.cell? ⟨b,o + i * 5 + 4,none⟩ = some (f i):=by
 obtain ⟨b,o,c,e,hlt,hc⟩:=h.s.at i (by simpa using hi)
 rw [List.getElem_mapIdx] at hc
 exact ⟨b,o,c,by simpa using e,hlt,hc 0 _ rfl,hc 1 _ rfl,hc 2 _ rfl,hc 3 _ rfl,hc 4 _ rfl⟩
theorem SpRd.cAt {w : World} {v1 v2 v3 v4 : Value} {f : Nat→Value} {S : Sp} (h : SpRd w v1 v2 v3 v4 f S) (i : Nat) (hi : i < S.cs.length) : ∃ b o c,v4 = .slice (some ⟨b,o,none⟩) S.cs.length c∧b < w.heap.size ∧
  w.cell? ⟨b,o + i * 6,none⟩ = some (.string S.cs[i].name)∧w.cell? ⟨b,o + i * 6 + 1,none⟩ = some (.int .i64 S.cs[i].frm)∧w.cell? ⟨b,o + i * 6 + 2,none⟩ = some (.int .i64 S.cs[i].to)∧w.cell? ⟨b,o + i * 6 + 3,none⟩ = some (.int .i64 S.cs[i].shift)∧w.cell? ⟨b,o + i * 6 + 4,none⟩ = some (.int .i64 S.cs[i].only)∧w.cell? ⟨b,o + i * 6 + 5,none⟩ = some (.bool S.cs[i].thr):=by
 obtain ⟨b,o,c,e,hlt,hc⟩:=h.c.at i (by simpa using hi)
 rw [List.getElem_map] at hc
 exact ⟨b,o,c,by simpa using e,hlt,hc 0 _ rfl,hc 1 _ rfl,hc 2 _ rfl,hc 3 _ rfl,hc 4 _ rfl,hc 5 _ rfl⟩
theorem SpRd.pAt {w : World} {v1 v2 v3 v4 : Value} {f : Nat→Value} {S : Sp} (h : SpRd w v1 v2 v3 v4 f S) (i : Nat) (hi : i < S.ss.length) (k : Nat) (hk : k < S.ss[i].parts.length) : ∃ b o c,f i = .slice (some ⟨b,o,none⟩) S.ss[i].parts.length c∧b < w.heap.size ∧
  w.cell? ⟨b,o + k * 4,none⟩ = some (.int .i64 S.ss[i].parts[k].rank)∧w.cell? ⟨b,o + k * 4 + 1,none⟩ = some (.int .i64 S.ss[i].parts[k].shift)∧w.cell? ⟨b,o + k * 4 + 2,none⟩ = some (.int .i64 S.ss[i].parts[k].lo)∧w.cell? ⟨b,o + k * 4 + 3,none⟩ = some (.int .i64 S.ss[i].parts[k].hi):=by
 obtain ⟨b,o,c,e,hlt,hc⟩:=(h.p i hi).at k (by simpa using hk)
 rw [List.getElem_map] at hc
 exact ⟨b,o,c,by simpa using e,hlt,hc 0 _ rfl,hc 1 _ rfl,hc 2 _ rfl,hc 3 _ rfl⟩
theorem ARd.form {w : World} {v : Value} {k : Nat} {rows : List (List Value)} (h : ARd w v k rows) : ∃ a c,v = .slice a rows.length c:=by
 obtain ⟨a,c,e,_⟩:=h
 exact ⟨a,c,e⟩
theorem SpRd.forms {w : World} {v1 v2 v3 v4 : Value} {f : Nat→Value} {S : Sp} (h : SpRd w v1 v2 v3 v4 f S) : (∃ a c,v1 = .slice a S.ds.length c)∧(∃ a c,v2 = .slice a S.rs.length c)∧(∃ a c,v3 = .slice a S.ss.length c)∧(∃ a c,v4 = .slice a S.cs.length c):=by
 obtain ⟨a1,c1,e1⟩:=h.d.form
 obtain ⟨a2,c2,e2⟩:=h.r.form
 obtain ⟨a3,c3,e3⟩:=h.s.form
 obtain ⟨a4,c4,e4⟩:=h.c.form
 exact ⟨⟨a1,c1,by simpa using e1⟩,⟨a2,c2,by simpa using e2⟩,⟨a3,c3,by simpa using e3⟩,⟨a4,c4,by simpa using e4⟩⟩
theorem Blk.four {W : World} {B : Nat} {t : TypeId} {a b c d : Value} (h : Blk W B t #[a,b,c,d]) : W.cell? ⟨B,0,none⟩ = some a∧W.cell? ⟨B,1,none⟩ = some b∧W.cell? ⟨B,2,none⟩ = some c∧W.cell? ⟨B,3,none⟩ = some d :=
 ⟨h.cell 0,h.cell 1,h.cell 2,h.cell 3⟩
end Go.Proofs.YthhfmppealmblaaGreatDoor
namespace Go.Proofs.YthhfmppealmblaaGreatDoor
theorem nmE_form {nm : ByteArray} {es : List ByteArray} {n : Int} (h : nameB (L nm) = false) : nmE nm es n = 6:=by unfold nmE; rw [if_pos h]
theorem nmE_twice {nm e : ByteArray} {es : List ByteArray} {n : Int} (h : nameB (L nm) = true) (he : e ∈ es) (hl : L e = L nm) : nmE nm es n = 8:=by
 unfold nmE
 rw [if_neg (by rw [h]; decide),if_pos (by rw [← hl]; exact List.mem_map_of_mem he)]
theorem nmE_next {nm : ByteArray} {es : List ByteArray} {n : Int} (h : nameB (L nm) = true) (he : ∀ e ∈ es,L e ≠ L nm) : nmE nm es n = n:=by
 unfold nmE
 rw [if_neg (by rw [h]; decide),if_neg]
 intro hm
 obtain ⟨e,h1,h2⟩:=List.mem_map.1 hm
 exact he e h1 h2
theorem mem_take_map {α β : Type} {l : List α} {f : α→β} {i k : Nat} (hk : k < i) (hi : i < l.length) : f (l[k]'(by omega)) ∈ (l.take i).map f:=by
 refine List.mem_map_of_mem ?_
 rw [List.mem_take_iff_getElem]
 exact ⟨k,by omega,rfl⟩
theorem of_mem_take_map {α β : Type} {l : List α} {f : α→β} {i : Nat} (hi : i < l.length) {y : β} (h : y ∈ (l.take i).map f) : ∃ k,∃ hk : k < i,y = f (l[k]'(by omega)):=by
 obtain ⟨x,hx,rfl⟩:=List.mem_map.1 h
 rw [List.mem_take_iff_getElem] at hx
 obtain ⟨k,hk,rfl⟩:=hx
 exact ⟨k,by omega,rfl⟩
theorem errD_is {S : Sp} {i : Nat} (hi : i < S.ds.length) : errD S i = nmE S.ds[i].name ((S.ds.take i).map (·.name)) (dvE S.ds[i]):=by
 unfold errD
 rw [List.getElem?_eq_getElem hi]
theorem errD_form {S : Sp} {i : Nat} (hi : i < S.ds.length) (h : nameB (L S.ds[i].name) = false) : errD S i = 6:=by rw [errD_is hi,nmE_form h]
theorem errD_twice {S : Sp} {i k : Nat} (hi : i < S.ds.length) (h : nameB (L S.ds[i].name) = true) (hk : k < i) (he : L (S.ds[k]'(by omega)).name = L S.ds[i].name) : errD S i = 8:=by
 rw [errD_is hi,nmE_twice h (mem_take_map (f:=(·.name)) hk hi) he]
theorem errD_next {S : Sp} {i : Nat} (hi : i < S.ds.length) (h : nameB (L S.ds[i].name) = true) (he : ∀ k (hk : k < i),L (S.ds[k]'(by omega)).name ≠ L S.ds[i].name) : errD S i = dvE S.ds[i]:=by
 rw [errD_is hi,nmE_next h]
 intro y hy
 obtain ⟨k,hk,rfl⟩:=of_mem_take_map (f:=(·.name)) hi hy
 exact he k hk
theorem errR_is {S : Sp} {i : Nat} (hi : i < S.rs.length) : errR S i = nmE S.rs[i].name ((S.rs.take i).map (·.name)) (rkE S.rs[i]):=by
 unfold errR
 rw [List.getElem?_eq_getElem hi]
theorem errR_form {S : Sp} {i : Nat} (hi : i < S.rs.length) (h : nameB (L S.rs[i].name) = false) : errR S i = 6:=by rw [errR_is hi,nmE_form h]
theorem errR_twice {S : Sp} {i k : Nat} (hi : i < S.rs.length) (h : nameB (L S.rs[i].name) = true) (hk : k < i) (he : L (S.rs[k]'(by omega)).name = L S.rs[i].name) : errR S i = 8:=by
 rw [errR_is hi,nmE_twice h (mem_take_map (f:=(·.name)) hk hi) he]
theorem errR_next {S : Sp} {i : Nat} (hi : i < S.rs.length) (h : nameB (L S.rs[i].name) = true) (he : ∀ k (hk : k < i),L (S.rs[k]'(by omega)).name ≠ L S.rs[i].name) : errR S i = rkE S.rs[i]:=by
 rw [errR_is hi,nmE_next h]
 intro y hy
 obtain ⟨k,hk,rfl⟩:=of_mem_take_map (f:=(·.name)) hi hy
 exact he k hk
theorem errC_is {S : Sp} {i : Nat} (hi : i < S.cs.length) : errC S i = nmE S.cs[i].name ((S.cs.take i).map (·.name)) (cpE S S.cs[i]):=by
 unfold errC
 rw [List.getElem?_eq_getElem hi]
theorem errC_form {S : Sp} {i : Nat} (hi : i < S.cs.length) (h : nameB (L S.cs[i].name) = false) : errC S i = 6:=by rw [errC_is hi,nmE_form h]
theorem errC_twice {S : Sp} {i k : Nat} (hi : i < S.cs.length) (h : nameB (L S.cs[i].name) = true) (hk : k < i) (he : L (S.cs[k]'(by omega)).name = L S.cs[i].name) : errC S i = 8:=by
 rw [errC_is hi,nmE_twice h (mem_take_map (f:=(·.name)) hk hi) he]
theorem errC_next {S : Sp} {i : Nat} (hi : i < S.cs.length) (h : nameB (L S.cs[i].name) = true) (he : ∀ k (hk : k < i),L (S.cs[k]'(by omega)).name ≠ L S.cs[i].name) : errC S i = cpE S S.cs[i]:=by
 rw [errC_is hi,nmE_next h]
 intro y hy
 obtain ⟨k,hk,rfl⟩:=of_mem_take_map (f:=(·.name)) hi hy
 exact he k hk
theorem errS_is {S : Sp} {i : Nat} (hi : i < S.ss.length) : errS S i = if nameB (L S.ss[i].name) = false then 6 else if 0 ≤ S.ss[i].div∧S.ss[i].div < S.ds.length then nmE S.ss[i].name (((S.ss.take i).filter fun y => decide (y.div = S.ss[i].div)).map (·.name)) (stE S.ss[i]) else 4:=by
 unfold errS
 rw [List.getElem?_eq_getElem hi]
theorem errS_form {S : Sp} {i : Nat} (hi : i < S.ss.length) (h : nameB (L S.ss[i].name) = false) : errS S i = 6:=by rw [errS_is hi,if_pos h]
theorem errS_none {S : Sp} {i : Nat} (hi : i < S.ss.length) (h : nameB (L S.ss[i].name) = true) (hd : ¬ (0 ≤ S.ss[i].div∧S.ss[i].div < S.ds.length)) : errS S i = 4:=by
 rw [errS_is hi,if_neg (by rw [h]; decide),if_neg hd]
theorem errS_twice {S : Sp} {i k : Nat} (hi : i < S.ss.length) (h : nameB (L S.ss[i].name) = true) (hd : 0 ≤ S.ss[i].div∧S.ss[i].div < S.ds.length) (hk : k < i) (he : L (S.ss[k]'(by omega)).name = L S.ss[i].name) (hv : (S.ss[k]'(by omega)).div = S.ss[i].div) : errS S i = 8:=by
 rw [errS_is hi,if_neg (by rw [h]; decide),if_pos hd]
 refine nmE_twice (e:=(S.ss[k]'(by omega)).name) h (List.mem_map_of_mem ?_) he
 rw [List.mem_filter,List.mem_take_iff_getElem]
 exact ⟨⟨k,by omega,rfl⟩,by simpa using hv⟩
theorem errS_next {S : Sp} {i : Nat} (hi : i < S.ss.length) (h : nameB (L S.ss[i].name) = true) (hd : 0 ≤ S.ss[i].div∧S.ss[i].div < S.ds.length) (he : ∀ k (hk : k < i),(S.ss[k]'(by omega)).div = S.ss[i].div→L (S.ss[k]'(by omega)).name ≠ L S.ss[i].name) : errS S i = stE S.ss[i]:=by
 rw [errS_is hi,if_neg (by rw [h]; decide),if_pos hd,nmE_next h]
 intro y hy
 obtain ⟨x,hx,rfl⟩:=List.mem_map.1 hy
 rw [List.mem_filter,List.mem_take_iff_getElem] at hx
 obtain ⟨⟨k,hk,rfl⟩,h2⟩:=hx
 exact he k (by omega) (by simpa using h2)
theorem errP_is {S : Sp} {x : St} {k : Nat} (hk : k < x.parts.length) : errP S x k = ptE S x x.parts[k]:=by
 unfold errP
 rw [List.getElem?_eq_getElem hk]
theorem ptE_is {S : Sp} {x : St} {p : Pt} (hd : x.div.toNat < S.ds.length) (h1 : 0 ≤ p.rank) (h2 : p.rank < S.rs.length) : ptE S x p =
  if S.ds[x.div.toNat].lo ≤ p.lo∧p.hi ≤ S.ds[x.div.toNat].hi∧p.lo ≤ p.hi∧-96 ≤ p.shift∧p.shift ≤ 96 then (if (S.rs[p.rank.toNat]'(by omega)).low ≤ p.lo + p.shift∧p.hi + p.shift < (S.rs[p.rank.toNat]'(by omega)).low + (S.rs[p.rank.toNat]'(by omega)).cnt then 0 else 4) else 7:=by
 unfold ptE
 rw [if_pos ⟨h1,h2⟩,List.getElem?_eq_getElem hd,List.getElem?_eq_getElem (by omega : p.rank.toNat < S.rs.length)]
theorem ptE_none {S : Sp} {x : St} {p : Pt} (h : ¬ (0 ≤ p.rank∧p.rank < S.rs.length)) : ptE S x p = 4:=by unfold ptE; rw [if_neg h]
theorem stopE_bad {S : Sp} {i : Nat} (hi : i < S.ss.length) (h : errS S i ≠ 0) : stopE S i = (0,errS S i):=by
 unfold stopE
 rw [List.getElem?_eq_getElem hi]
 exact if_pos h
theorem stopE_part {S : Sp} {i k : Nat} (hi : i < S.ss.length) (h : errS S i = 0) (hk : fst0 (errP S S.ss[i]) S.ss[i].parts.length = some k) : stopE S i = ((k : Int) + 1,errP S S.ss[i] k):=by
 unfold stopE
 rw [List.getElem?_eq_getElem hi]
 simp only
 rw [if_neg (by rw [h]; decide),hk]
theorem stopE_good {S : Sp} {i : Nat} (hi : i < S.ss.length) (h : errS S i = 0) (hk : fst0 (errP S S.ss[i]) S.ss[i].parts.length = none) : stopE S i = (0,0):=by
 unfold stopE
 rw [List.getElem?_eq_getElem hi]
 simp only
 rw [if_neg (by rw [h]; decide),hk]
end Go.Proofs.YthhfmppealmblaaGreatDoor
namespace Go.Proofs.YthhfmppealmblaaGreatDoor
open Go.RowKit Go.Maps Go.WideShapes Go.WideMaps
def Key (k n : List UInt8) : List UInt8:=k ++ 32 :: n
theorem cut_inj : ∀ {a c b d : List UInt8},(32 : UInt8) ∉ a→(32 : UInt8) ∉ c→a ++ 32 :: b = c ++ 32 :: d→a = c∧b = d
 | [],[],b,d,_,_,h => ⟨rfl,(List.cons.inj h).2⟩
 | [],y :: c,b,d,_,h2,h => absurd (List.cons.inj h).1 (fun e => h2 (by rw [e]; simp))
 | x :: a,[],b,d,h1,_,h => absurd (List.cons.inj h).1 (fun e => h1 (by rw [← e]; simp))
 | x :: a,y :: c,b,d,h1,h2,h => by
  simp only [List.mem_cons,not_or] at h1 h2
  obtain ⟨e1,e2⟩:=cut_inj h1.2 h2.2 (List.cons.inj h).2
  exact ⟨by rw [(List.cons.inj h).1,e1],e2⟩
theorem key_inj {k1 k2 n1 n2 : List UInt8} (h1 : (32 : UInt8) ∉ n1) (h2 : (32 : UInt8) ∉ n2) (h : Key k1 n1 = Key k2 n2) : k1 = k2∧n1 = n2:=by
 have e:=congrArg List.reverse h
 unfold Key at e
 simp only [List.reverse_append,List.reverse_cons,List.append_assoc,List.singleton_append] at e
 obtain ⟨e1,e2⟩:=cut_inj (by simpa using h1) (by simpa using h2) e
 exact ⟨List.reverse_inj.1 e2,List.reverse_inj.1 e1⟩
theorem name_no32 {l : List UInt8} (h : nameB l = true) : (32 : UInt8) ∉ l:=by
 intro hm
 unfold nameB at h
 simp only [Bool.and_eq_true] at h
 have:=List.all_eq_true.1 h.2 32 hm
 revert this
 decide
def SeenD (D : DataW Unit) (ks : List (List UInt8 × List UInt8)) : Prop:=Maps.IsMap D∧(∀ p ∈ ks,(32 : UInt8) ∉ p.2) ∧
 ∀ k n,(32 : UInt8) ∉ n→D.atKey (.string (Key k n)) (.lit (.bool false)) = .lit (.bool (decide ((k,n) ∈ ks)))
theorem seen_start : SeenD (.map []) []:=by
 refine ⟨Maps.isMap_empty,fun p h => absurd h List.not_mem_nil,fun k n _ => ?_⟩
 simp
 rfl
theorem seen_put {D : DataW Unit} {ks : List (List UInt8 × List UInt8)} (h : SeenD D ks) (k n : List UInt8) (hn : (32 : UInt8) ∉ n) : SeenD (D.put (.string (Key k n)) (.lit (.bool true))) ((k,n) :: ks):=by
 obtain ⟨h1,h2,h3⟩:=h
 refine ⟨h1.put _ _,fun p hp => ?_,fun k' n' hn' => ?_⟩
 ·rcases List.mem_cons.1 hp with rfl | hp
  ·exact hn
  ·exact h2 p hp
 ·by_cases e : (k',n') = (k,n)
  ·cases e
   rw [Maps.atKey_put_same h1 (by trivial)]
   simp
  ·rw [Maps.atKey_put_other (by
    intro e2
    have:=key_inj hn' hn (Lit.string.inj e2)
    exact e (by rw [this.1,this.2])),h3 k' n' hn']
   congr 3
   simp [e]
def Seen (P : Program) (ts tb : TypeId) (w : World) (b n : Nat) (ks : List (List UInt8 × List UInt8)) : Prop:=∃ D : DataW Unit,w.ownsMap P ts (plainElem P tb) b n D∧SeenD D ks
theorem Seen.made (P : Program) (ts tb : TypeId) (w : World) : Seen P ts tb (w.alloc (.map #[] 0)) w.heap.size 0 []:=⟨_,World.ownsMap_made w P ts _,seen_start⟩
theorem Seen.kept {P : Program} {ts tb : TypeId} {w w' : World} {b n : Nat} {ks : List (List UInt8 × List UInt8)} {row : Option Nat} (h : Seen P ts tb w b n ks) (hg : w.grownBy w' row) (hne : some b ≠ row) : Seen P ts tb w' b n ks:=by
 obtain ⟨D,h1,h2⟩:=h
 exact ⟨D,h1.kept hg hne,h2⟩
theorem Seen.below {P : Program} {ts tb : TypeId} {w w' : World} {b n : Nat} {ks : List (List UInt8 × List UInt8)} (h : Seen P ts tb w b n ks) (hb : Below w.heap.size w w') : Seen P ts tb w' b n ks :=
 h.kept (row:=none) ⟨hb.os,hb.tape,hb.output,hb.size,fun i hi _ => hb.block i hi⟩ (by simp)
theorem Seen.lt {P : Program} {ts tb : TypeId} {w : World} {b n : Nat} {ks : List (List UInt8 × List UInt8)} (h : Seen P ts tb w b n ks) : b < w.heap.size:=by
 obtain ⟨D,h1,_⟩:=h
 exact h1.lt
theorem bool_inv {P : Program} {e : TypeId} (he : P.underlying e = some .bool) {v : Value} {z : DataW Unit × List MemPlace} (h : plainElem P e v = some z) : ∃ a,v = .bool a∧z = (.lit (.bool a),[]):=by
 unfold plainElem at h
 rw [he] at h
 cases v <;> simp at h
 exact ⟨_,rfl,h.symm⟩
theorem wpList_lookup_seen {P : Program} (w : World) {ops : Array Oper} {rest : List Oper} {o : Oper} {a : Act} {Q : Exit→Act→World→Prop}
  (hg : o.guard = none) (m x : Operand) (t : TypeId) (hop : o.op = Op.lookup t m x false)
  (ts tb : TypeId) (hts : P.underlying ts = some .string) (htb : P.underlying tb = some .bool) (ht : P.underlying t = some (.map ts tb)) (hz : (zeroValue tb).run P w = .ok (.bool false) w) (b n : Nat) (ks : List (List UInt8 × List UInt8))
  (hm : a.eval m = .map (some b)) (hown : Seen P ts tb w b n ks) (s : ByteArray) (hx : a.eval x = .string s) (k nm : List UInt8) (hs : L s = Key k nm) (hz2 : s.size ≤ maxLen) (hn : (32 : UInt8) ∉ nm)
  (hK : wpList P ops Q rest (a.put o.dst (.bool (decide ((k,nm) ∈ ks)))) w) :
  wpList P ops Q (o :: rest) a w:=by
 refine wpList_plain hg fun K' hK' => ?_
 obtain ⟨D,h1,_,_,h3⟩:=hown
 obtain ⟨v,ps,hrun,hv⟩:=h1.lookup (string_keyed hts) ht hz (plainElem_bool htb false) (key:=.string s) (keyOf_string_mk hts hz2)
 obtain ⟨c,rfl,hc⟩:=bool_inv htb hv
 have he:=h3 k nm hn
 rw [← hs] at he
 have hc1:=congrArg Prod.fst hc
 simp only at hc1
 have hcc : c = decide ((k,nm) ∈ ks):=by
  have:=hc1.symm.trans he
  simpa using this
 rw [hcc] at hrun
 unfold Oper.wp
 simp [execOp,hop,hm,hx,hrun,Result.andThen]
 exact hK' _ _ hK
theorem wpList_update_seen {P : Program} (w : World) {ops : Array Oper} {rest : List Oper} {o : Oper} {a : Act} {Q : Exit→Act→World→Prop}
  (hg : o.guard = none) (m x v : Operand) (t : TypeId) (hop : o.op = Op.mapUpdate t m x v)
  (ts tb : TypeId) (hts : P.underlying ts = some .string) (htb : P.underlying tb = some .bool) (ht : P.underlying t = some (.map ts tb)) (b n : Nat) (ks : List (List UInt8 × List UInt8))
  (hm : a.eval m = .map (some b)) (hown : Seen P ts tb w b n ks) (hlt : n < maxLen) (s : ByteArray) (hx : a.eval x = .string s) (hv : a.eval v = .bool true) (k nm : List UInt8) (hs : L s = Key k nm) (hz2 : s.size ≤ maxLen) (hn : (32 : UInt8) ∉ nm)
  (hK : ∀ w',Seen P ts tb w' b (n + 1) ((k,nm) :: ks)→w.grownBy w' (some b)→wpList P ops Q rest (a.put o.dst undef) w') :
  wpList P ops Q (o :: rest) a w:=by
 obtain ⟨D,h1,h2⟩:=hown
 refine wpList_mapUpdate_own w hg m x v t hop ts tb (string_keyed hts) ht (plainElem P tb) b n D hm h1 hlt (.string s) (.bool true) (.string (L s)) hx hv (keyOf_string_mk hts hz2) (.lit (.bool true)) [] (plainElem_bool htb true) ?_
 intro w' h3 h4
 exact hK w' ⟨_,h3,by rw [hs]; exact seen_put h2 k nm hn⟩ h4
end Go.Proofs.YthhfmppealmblaaGreatDoor
