/-
  A part of the proof: Plain,SpP,Shelf,Tabs,Blk,Base,Arr,OpenS,H,UA,UB,Open30.
-/
import Derived.WalkKit
import Derived.WalkSpells
import Derived.Lib.Strings
import Derived.Shelf.Small.Bits
import Derived.Shelf.Small.Wraps
import Derived.Shelf.Strconv.Itoa0
import Derived.Shelf.Strconv.Itoa1
import Derived.Shelf.LaysM
import Derived.Shelf.Strconv.Itoa2
import Derived.Shelf.Strconv.Itoa3
import Derived.Shelf.Strconv.Itoa4
import Derived.Ground.Names2Prog
import Derived.Shelf.Slices.Clone
import Derived.Shelf.Slices.CompactI
import Derived.Shelf.Slices.SearchI
import Derived.Test.YteflhbfgpknabaaGreatDoorProg
import Derived.Test.YteflhbfgpknabaaGreatDoorRows
import Derived.WalkLawsBesides
import Derived.Lib.Hide
import Derived.Lib.LaidTab
import Derived.Lib.ItoaLen
import Derived.WalkSmall
import Derived.RangeFuncBox
import Derived.Deep.Slices
import Derived.Deep.Fields
import Derived.ChangeSame
import Derived.ChangeArms
import Derived.OpenShut
import Derived.Lib.SmallJoins
import Derived.Lib.TrailingZeros
import Derived.Deep.QuietTactic
import Derived.BigQuiet
import Derived.Deep.RegionLaw
import Derived.Shelf.Spec.TrailingZeros
import Derived.RangeFuncWrites
import Derived.RangeFuncNested
import Derived.RangeFuncBound
import Derived.RangeFuncCalls
import Derived.RangeFuncLeaves
import Derived.Shelf.Abstract
import Derived.Shelf.RegionOpen
import Derived.OwnWalkIn
import Derived.TacticsInMore
import Derived.LoopNIn
import Derived.LoopIn
import Derived.Test.YteflhbfgpknabaaGreatDoorCards
import Derived.Test.YteflhbfgpknabaaGreatDoorTie
import Derived.ProofKit
import Derived.Deep.DeepHandedRow
import Derived.Deep.DeepWitnessRowRef
import Derived.LaidMore
import Derived.ShutString
import Derived.Stop.LaidErr
import Derived.MakeChecks
set_option maxRecDepth 100000
set_option maxHeartbeats 1000000
namespace Go.Proofs.YteflhbfgpknabaaGreatDoor
open Go.Lib (hid)
open Go.RowKit
def digB (c:Int):Bool:=decide (48≤c)&&decide (c≤57)
def letB (c:Int):Bool:=decide (97≤c)&&decide (c≤122)||decide (65≤c)&&decide (c≤90)
def wrdB (c:Int):Bool:=letB c||digB c||decide (c=95)
def L (s:ByteArray):List UInt8:=s.data.toList
theorem L_length (s:ByteArray):(L s).length=s.size:=by unfold L;rw [Array.length_toList];rfl
theorem L_get (s:ByteArray) (k:Nat) (h:k<s.size):(L s)[k]'(by rw [L_length];exact h)=s[k]:=by
 rfl
theorem take_snoc (s:ByteArray) (k:Nat) (h:k<s.size):(L s).take (k+1)=(L s).take k++[s[k]]:=by
 rw [List.take_succ_eq_append_getElem (by rw [L_length];exact h),L_get s k h]
theorem take_all (s:ByteArray) (k:Nat) (h:s.size≤k):(L s).take k=L s:=List.take_of_length_le (by rw [L_length];exact h)
theorem mkL (l:List UInt8):∃ q:ByteArray,L q=l:=⟨⟨l.toArray⟩,rfl⟩
theorem eq_of_L {a b:ByteArray} (h:L a=L b):a=b:=by
 obtain ⟨⟨x⟩⟩:=a;obtain ⟨⟨y⟩⟩:=b
 have h':x=y:=h
 rw [h']
theorem mk_of_L {q:ByteArray} {l:List UInt8} (h:L q=l):(⟨l.toArray⟩:ByteArray)=q:=eq_of_L h.symm
theorem size_of_L {q:ByteArray} {l:List UInt8} (h:L q=l):q.size=l.length:=by rw [← h,L_length]
theorem L_append (a b:ByteArray):L (a++b)=L a++L b:=by
 obtain ⟨⟨x⟩⟩:=a;obtain ⟨⟨y⟩⟩:=b
 rw [ByteArray.mk_append_mk];rfl
theorem allTo_succ (s:ByteArray) (p:UInt8→Bool) (k:Nat) (h:k<s.size):((L s).take (k+1)).all p=(((L s).take k).all p&&p s[k]):=by
 rw [take_snoc s k h];simp
theorem all_no (s:ByteArray) (p:UInt8→Bool) (k:Nat) (h:k<s.size) (hp:p s[k]=false):(L s).all p=false:=by
 rw [Bool.eq_false_iff]
 intro ha
 rw [List.all_eq_true] at ha
 have:=ha s[k] (by rw [← L_get s k h];exact List.getElem_mem _)
 simp [hp] at this
theorem byte_lt (c:UInt8):(c.toNat:Int)<256:=by have:=c.toNat_lt;omega
theorem ret_bool {a b:Bool} (h:a=b):Ending.returned (.bool a) = .returned (.bool b):=by rw [h]
theorem ret_int {k:IntKind} {a b:Int} (h:a=b):Ending.returned (.int k a) = .returned (.int k b):=by rw [h]
theorem or32_fin:∀ n:Fin 256,(decide (97≤bits .or .u8 (n.val:Int) 32)&&decide (bits .or .u8 (n.val:Int) 32≤122))=letB (n.val:Int):=by decide +kernel
theorem or32 (c:Int) (h0:0≤c) (h1:c<256):(decide (97≤bits .or .u8 c 32)&&decide (bits .or .u8 c 32≤122))=letB c:=by
 obtain ⟨n,rfl⟩:=Int.eq_ofNat_of_zero_le h0
 exact or32_fin ⟨n,by omega⟩
def wrdU (c:UInt8):Bool:=wrdB (c.toNat:Int)
def nameB (l:List UInt8):Bool:=decide (1≤l.length)&&decide (l.length≤16)&&letB ((l.headD 0).toNat:Int)&&l.all wrdU
theorem head_eq (s:ByteArray) (h:0<s.size):(L s).headD 0=s[0]:=by
 have e:=L_get s 0 h
 have hl:=L_length s
 cases hL:L s with
 | nil=>rw [hL] at hl;simp at hl;omega
 | cons a t=>simp only [hL] at e;simpa using e
def nameTo (s:ByteArray) (k:Nat):Prop:=((L s).take k).all wrdU=true∧(0<k→letB ((L s).headD 0).toNat=true)
theorem nameTo_zero (s:ByteArray):nameTo s 0:=⟨by simp,fun h=>absurd h (Nat.lt_irrefl 0)⟩
theorem nameTo_succ {s:ByteArray} {k:Nat} (h:nameTo s k) (hk:k<s.size) (hw:wrdU s[k]=true) (h0:k=0→letB (s[k].toNat:Int)=true):nameTo s (k+1):=by
 refine ⟨by rw [allTo_succ s _ k hk,h.1,hw];rfl,fun _=>?_⟩
 by_cases e:k=0
 ·subst e;rw [head_eq s hk];exact h0 rfl
 ·exact h.2 (by omega)
theorem name_bad {s:ByteArray} {k:Nat} (hk:k<s.size) (hb:wrdU s[k]=false∨(k=0∧letB (s[k].toNat:Int)=false)):nameB (L s)=false:=by
 rcases hb with hb | ⟨rfl,hb⟩
 ·unfold nameB;rw [all_no s wrdU k hk hb];simp
 ·unfold nameB;rw [head_eq s hk,hb];simp
theorem name_end {s:ByteArray} {k:Nat} (h:nameTo s k) (hk:s.size≤k):nameB (L s)=(decide (1≤s.size)&&decide (s.size≤16)):=by
 have h1:=h.1
 rw [take_all s k hk] at h1
 unfold nameB
 rw [L_length,h1]
 by_cases e:1≤s.size
 ·rw [h.2 (by omega)];simp
 ·simp [e]
theorem name_empty {s:ByteArray} (h:s.size<1):nameB (L s)=false:=by
 have:(L s).length=0:=by rw [L_length];omega
 simp [nameB,this]
theorem name_long {s:ByteArray} (h:16<s.size):nameB (L s)=false:=by
 have:¬ (L s).length≤16:=by rw [L_length];omega
 simp [nameB,this]
end Go.Proofs.YteflhbfgpknabaaGreatDoor
namespace Go.Proofs.YteflhbfgpknabaaGreatDoor
open Go.Lib (hid)
structure Dv where
 name:ByteArray
 lo:Int
 hi:Int
structure Rk where
 name:ByteArray
 kind:Int
 num:Int
 den:Int
 low:Int
 cnt:Int
structure Pt where
 rank:Int
 shift:Int
 lo:Int
 hi:Int
structure St where
 name:ByteArray
 div:Int
 num:Int
 den:Int
 parts:List Pt
structure Cp where
 name:ByteArray
 frm:Int
 to:Int
 shift:Int
 only:Int
 thr:Bool
structure Sp where
 ds:List Dv
 rs:List Rk
 ss:List St
 cs:List Cp
def FeetOk (n d:Int):Prop:=1≤d∧d≤15∧1≤n∧n≤64 * d∧Int.gcd n d=1
instance (n d:Int):Decidable (FeetOk n d):=by unfold FeetOk;infer_instance
def nmE (nm:ByteArray) (earlier:List ByteArray) (next:Int):Int:=if nameB (L nm)=false then 6 else if L nm∈earlier.map L then 8 else next
def dvE (d:Dv):Int:=if 0≤d.lo∧d.lo≤127∧d.lo≤d.hi∧d.hi≤127∧d.hi-d.lo≤60 then 0 else 7
def rkE (r:Rk):Int:=if 1≤r.kind∧r.kind≤4∧FeetOk r.num r.den then (if 1≤r.cnt∧r.cnt≤97∧0≤r.low∧r.low+r.cnt≤128 then 0 else 7) else 2
def stE (x:St):Int:=if FeetOk x.num x.den∧0<x.parts.length then (if x.parts.length≤12 then 0 else 3) else 2
def ptE (S:Sp) (x:St) (p:Pt):Int :=
 if 0≤p.rank∧p.rank<S.rs.length then
  match S.ds[x.div.toNat]?,S.rs[p.rank.toNat]? with
  | some d,some r=>if d.lo≤p.lo∧p.hi≤d.hi∧p.lo≤p.hi∧-96≤p.shift∧p.shift≤96 then (if r.low≤p.lo+p.shift∧p.hi+p.shift<r.low+r.cnt then 0 else 4) else 7
  | _,_=>0
 else 4
def cpE (S:Sp) (c:Cp):Int :=
 if 0≤c.frm∧c.frm<S.ds.length∧0≤c.to∧c.to<S.ds.length then
  (if (c.shift = -12∨c.shift=12∨c.shift=0∧c.frm≠c.to)∧0≤c.only∧c.only≤2∧¬ (c.thr=true∧c.only≠0) then 0 else 2)
 else 4
def errD (S:Sp) (i:Nat):Int:=match S.ds[i]? with | none=>0 | some d=>nmE d.name ((S.ds.take i).map (·.name)) (dvE d)
def errR (S:Sp) (i:Nat):Int:=match S.rs[i]? with | none=>0 | some r=>nmE r.name ((S.rs.take i).map (·.name)) (rkE r)
def errS (S:Sp) (i:Nat):Int:=match S.ss[i]? with
 | none=>0
 | some x=>if nameB (L x.name)=false then 6 else if 0≤x.div∧x.div<S.ds.length then nmE x.name (((S.ss.take i).filter fun y=>decide (y.div=x.div)).map (·.name)) (stE x) else 4
def errP (S:Sp) (x:St) (k:Nat):Int:=match x.parts[k]? with | none=>0 | some p=>ptE S x p
def errC (S:Sp) (i:Nat):Int:=match S.cs[i]? with | none=>0 | some c=>nmE c.name ((S.cs.take i).map (·.name)) (cpE S c)
def fst0 (f:Nat→Int) (n:Nat):Option Nat:=(List.range n).find? fun i=>decide (f i≠0)
theorem fst0_none {f:Nat→Int} {n:Nat}:fst0 f n=none↔∀ i,i<n→f i=0:=by
 unfold fst0
 rw [List.find?_eq_none]
 simp
theorem fst0_some {f:Nat→Int} {n i:Nat} (h1:i<n) (h2:f i≠0) (h3:∀ j,j<i→f j=0):fst0 f n=some i:=by
 unfold fst0
 rw [List.find?_range_eq_some]
 exact ⟨by simpa using h2,by simpa using h1,fun j hj=>by simpa using h3 j hj⟩
theorem fst0_is {f:Nat→Int} {n i:Nat} (h:fst0 f n=some i):i<n∧f i≠0∧∀ j,j<i→f j=0:=by
 unfold fst0 at h
 rw [List.find?_range_eq_some] at h
 exact ⟨by simpa using h.2.1,by simpa using h.1,fun j hj=>by simpa using h.2.2 j hj⟩
def stopE (S:Sp) (i:Nat):Int × Int:=match S.ss[i]? with
 | none=>(0,0)
 | some x=>if errS S i≠0 then (0,errS S i) else match fst0 (errP S x) x.parts.length with
  | none=>(0,0)
  | some k=>((k:Int)+1,errP S x k)
def checkP (S:Sp):(Int × Int × Int) × Int :=
 if 6<S.ds.length∨40<S.rs.length∨80<S.ss.length∨24<S.cs.length then ((0,0,0),3) else
 match fst0 (errD S) S.ds.length with
 | some i=>((1,i,0),errD S i)
 | none=>match fst0 (errR S) S.rs.length with
  | some i=>((2,i,0),errR S i)
  | none=>match fst0 (fun i=>(stopE S i).2) S.ss.length with
   | some i=>((3,i,(stopE S i).1),(stopE S i).2)
   | none=>match fst0 (errC S) S.cs.length with
    | some i=>((4,i,0),errC S i)
    | none=>((0,0,0),0)
end Go.Proofs.YteflhbfgpknabaaGreatDoor
namespace Go.Proofs
open Go.Shelf
def Tryz.laysM246_ren:Go.Shelf.Ren:=⟨fun | 246=>188 | 283=>201 | 284=>202 | 285=>203 | 286=>204 | 129=>140 | 317=>207 | 318=>208 | 319=>209 | 320=>210 | 337=>211 | 338=>182 | n=>n,fun | 2=>2 | 3=>3 | 9=>9 | 4=>4 | 171=>260 | 0=>0 | 53=>193 | 37=>262 | 5=>5 | 173=>263 | 212=>269 | 51=>191 | 20=>20 | 213=>270 | 46=>164 | 232=>271 | 233=>249 | n=>n,fun | 17=>1 | 18=>2 | 19=>0 | n=>n⟩
def Tryz.laysM243_ren:Go.Shelf.Ren:=⟨fun | 243=>200 | 246=>188 | 283=>201 | 284=>202 | 285=>203 | 286=>204 | 129=>140 | 317=>207 | 318=>208 | 319=>209 | 320=>210 | 337=>211 | 338=>182 | n=>n,fun | 3=>3 | 9=>9 | 2=>2 | 4=>4 | 171=>260 | 0=>0 | 53=>193 | 37=>262 | 5=>5 | 173=>263 | 212=>269 | 51=>191 | 20=>20 | 213=>270 | 46=>164 | 232=>271 | 233=>249 | n=>n,fun | 17=>1 | 18=>2 | 19=>0 | n=>n⟩
def Tryz.laysM171_ren:Go.Shelf.Ren:=⟨fun | 171=>187 | 243=>200 | 246=>188 | 283=>201 | 284=>202 | 285=>203 | 286=>204 | 129=>140 | 317=>207 | 318=>208 | 319=>209 | 320=>210 | 337=>211 | 338=>182 | n=>n,fun | 3=>3 | 9=>9 | 2=>2 | 4=>4 | 171=>260 | 0=>0 | 53=>193 | 37=>262 | 5=>5 | 173=>263 | 212=>269 | 51=>191 | 20=>20 | 213=>270 | 46=>164 | 232=>271 | 233=>249 | n=>n,fun | 17=>1 | 18=>2 | 19=>0 | n=>n⟩
theorem Tryz.laysM171:Go.Proofs.LaysM.n171 Tryz.prog Tryz.laysM171_ren:={
 mixed:=by kernel_rfl
 f129:=Tryz.func140.trans (congrArg some (by kernel_rfl))
 f171:=Tryz.func187.trans (congrArg some (by kernel_rfl))
 f243:=Tryz.func200.trans (congrArg some (by kernel_rfl))
 f246:=Tryz.func188.trans (congrArg some (by kernel_rfl))
 f283:=Tryz.func201.trans (congrArg some (by kernel_rfl))
 f284:=Tryz.func202.trans (congrArg some (by kernel_rfl))
 f285:=Tryz.func203.trans (congrArg some (by kernel_rfl))
 f286:=Tryz.func204.trans (congrArg some (by kernel_rfl))
 f317:=Tryz.func207.trans (congrArg some (by kernel_rfl))
 f318:=Tryz.func208.trans (congrArg some (by kernel_rfl))
 f319:=Tryz.func209.trans (congrArg some (by kernel_rfl))
 f320:=Tryz.func210.trans (congrArg some (by kernel_rfl))
 f337:=Tryz.func211.trans (congrArg some (by kernel_rfl))
 f338:=Tryz.func182.trans (congrArg some (by kernel_rfl))
 t0:=Tryz.underlying0
 a0:=Tryz.isAgg0
 z0:=Tryz.sizeOf0
 v0:=Tryz.zeroValue0
 t2:=Tryz.underlying2
 a2:=Tryz.isAgg2
 z2:=Tryz.sizeOf2
 v2:=Tryz.zeroValue2
 t3:=Tryz.underlying3
 a3:=Tryz.isAgg3
 z3:=Tryz.sizeOf3
 v3:=Tryz.zeroValue3
 t4:=Tryz.underlying4
 a4:=Tryz.isAgg4
 z4:=Tryz.sizeOf4
 v4:=Tryz.zeroValue4
 t5:=Tryz.underlying5
 a5:=Tryz.isAgg5
 z5:=Tryz.sizeOf5
 v5:=Tryz.zeroValue5
 t9:=Tryz.underlying9
 a9:=Tryz.isAgg9
 z9:=Tryz.sizeOf9
 v9:=Tryz.zeroValue9
 t20:=Tryz.underlying20
 a20:=Tryz.isAgg20
 z20:=Tryz.sizeOf20
 v20:=Tryz.zeroValue20
 t37:=Tryz.underlying262
 a37:=Tryz.isAgg262
 z37:=Tryz.sizeOf262
 v37:=Tryz.zeroValue262
 t46:=Tryz.underlying164
 a46:=Tryz.isAgg164
 z46:=Tryz.sizeOf164
 v46:=Tryz.zeroValue164
 t51:=Tryz.underlying191
 a51:=Tryz.isAgg191
 z51:=Tryz.sizeOf191
 v51:=Tryz.zeroValue191
 t53:=Tryz.underlying193
 a53:=Tryz.isAgg193
 z53:=Tryz.sizeOf193
 v53:=Tryz.zeroValue193
 t171:=Tryz.underlying260
 a171:=Tryz.isAgg260
 z171:=Tryz.sizeOf260
 v171:=Tryz.zeroValue260
 t173:=Tryz.underlying263
 a173:=Tryz.isAgg263
 z173:=Tryz.sizeOf263
 v173:=Tryz.zeroValue263
 t212:=Tryz.underlying269
 a212:=Tryz.isAgg269
 z212:=Tryz.sizeOf269
 v212:=Tryz.zeroValue269
 t213:=Tryz.underlying270
 a213:=Tryz.isAgg270
 z213:=Tryz.sizeOf270
 t232:=Tryz.underlying271
 a232:=Tryz.isAgg271
 z232:=Tryz.sizeOf271
 v232:=Tryz.zeroValue271
 t233:=Tryz.underlying249
 a233:=Tryz.isAgg249
 z233:=Tryz.sizeOf249
 v233:=Tryz.zeroValue249
 g17:=by kernel_rfl
 g18:=by kernel_rfl
 g19:=by kernel_rfl
 i0:=by kernel_rfl
 i2:=by kernel_rfl
 i3:=by kernel_rfl
 i4:=by kernel_rfl
 i5:=by kernel_rfl
 i9:=by kernel_rfl
 i20:=by kernel_rfl
 i37:=by kernel_rfl
 i46:=by kernel_rfl
 i51:=by kernel_rfl
 i53:=by kernel_rfl
 i171:=by kernel_rfl
 i173:=by kernel_rfl
 i212:=by kernel_rfl
 i232:=by kernel_rfl
 i233:=by kernel_rfl
 m17:=by kernel_rfl
 m18:=by kernel_rfl
 m19:=by kernel_rfl }
open Go.RowKit Go.Sort Go.Lib in
theorem Tryz.strconv_Itoa (n:Int) (h0 : -9223372036854775808≤n) (h1:n≤9223372036854775807) (w:World) (htab:Lib.TabIs Tryz.prog w "internal/strconv.uint64pow10" .u64 Lib.pow10Tab) :
  Calls Tryz.prog 187 #[.int .i64 n] w fun e w'=>e = .returned (.string ⟨(Lib.itoa n).toArray⟩)∧∃ k os,w'=grow (w.drewN k) os:=Any.strconv_Itoa Tryz.laysM171 n h0 h1 w htab
def Tryz.laysM173_ren:Go.Shelf.Ren:=⟨fun | 173=>163 | 246=>188 | 283=>201 | 284=>202 | 285=>203 | 286=>204 | 129=>140 | 317=>207 | 318=>208 | 319=>209 | 320=>210 | 337=>211 | 338=>182 | n=>n,fun | 2=>2 | 3=>3 | 9=>9 | 4=>4 | 171=>260 | 0=>0 | 53=>193 | 37=>262 | 5=>5 | 173=>263 | 212=>269 | 51=>191 | 20=>20 | 213=>270 | 46=>164 | 232=>271 | 233=>249 | n=>n,fun | 17=>1 | 18=>2 | 19=>0 | n=>n⟩
theorem Tryz.laysM173:Go.Proofs.LaysM.n173 Tryz.prog Tryz.laysM173_ren:={
 mixed:=by kernel_rfl
 f129:=Tryz.func140.trans (congrArg some (by kernel_rfl))
 f173:=Tryz.func163.trans (congrArg some (by kernel_rfl))
 f246:=Tryz.func188.trans (congrArg some (by kernel_rfl))
 f283:=Tryz.func201.trans (congrArg some (by kernel_rfl))
 f284:=Tryz.func202.trans (congrArg some (by kernel_rfl))
 f285:=Tryz.func203.trans (congrArg some (by kernel_rfl))
 f286:=Tryz.func204.trans (congrArg some (by kernel_rfl))
 f317:=Tryz.func207.trans (congrArg some (by kernel_rfl))
 f318:=Tryz.func208.trans (congrArg some (by kernel_rfl))
 f319:=Tryz.func209.trans (congrArg some (by kernel_rfl))
 f320:=Tryz.func210.trans (congrArg some (by kernel_rfl))
 f337:=Tryz.func211.trans (congrArg some (by kernel_rfl))
 f338:=Tryz.func182.trans (congrArg some (by kernel_rfl))
 t0:=Tryz.underlying0
 a0:=Tryz.isAgg0
 z0:=Tryz.sizeOf0
 v0:=Tryz.zeroValue0
 t2:=Tryz.underlying2
 a2:=Tryz.isAgg2
 z2:=Tryz.sizeOf2
 v2:=Tryz.zeroValue2
 t3:=Tryz.underlying3
 a3:=Tryz.isAgg3
 z3:=Tryz.sizeOf3
 v3:=Tryz.zeroValue3
 t4:=Tryz.underlying4
 a4:=Tryz.isAgg4
 z4:=Tryz.sizeOf4
 v4:=Tryz.zeroValue4
 t5:=Tryz.underlying5
 a5:=Tryz.isAgg5
 z5:=Tryz.sizeOf5
 v5:=Tryz.zeroValue5
 t9:=Tryz.underlying9
 a9:=Tryz.isAgg9
 z9:=Tryz.sizeOf9
 v9:=Tryz.zeroValue9
 t20:=Tryz.underlying20
 a20:=Tryz.isAgg20
 z20:=Tryz.sizeOf20
 v20:=Tryz.zeroValue20
 t37:=Tryz.underlying262
 a37:=Tryz.isAgg262
 z37:=Tryz.sizeOf262
 v37:=Tryz.zeroValue262
 t46:=Tryz.underlying164
 a46:=Tryz.isAgg164
 z46:=Tryz.sizeOf164
 v46:=Tryz.zeroValue164
 t51:=Tryz.underlying191
 a51:=Tryz.isAgg191
 z51:=Tryz.sizeOf191
 v51:=Tryz.zeroValue191
 t53:=Tryz.underlying193
 a53:=Tryz.isAgg193
 z53:=Tryz.sizeOf193
 v53:=Tryz.zeroValue193
 t171:=Tryz.underlying260
 a171:=Tryz.isAgg260
 z171:=Tryz.sizeOf260
 v171:=Tryz.zeroValue260
 t173:=Tryz.underlying263
 a173:=Tryz.isAgg263
 z173:=Tryz.sizeOf263
 v173:=Tryz.zeroValue263
 t212:=Tryz.underlying269
 a212:=Tryz.isAgg269
 z212:=Tryz.sizeOf269
 v212:=Tryz.zeroValue269
 t213:=Tryz.underlying270
 a213:=Tryz.isAgg270
 z213:=Tryz.sizeOf270
 t232:=Tryz.underlying271
 a232:=Tryz.isAgg271
 z232:=Tryz.sizeOf271
 v232:=Tryz.zeroValue271
 t233:=Tryz.underlying249
 a233:=Tryz.isAgg249
 z233:=Tryz.sizeOf249
 v233:=Tryz.zeroValue249
 g17:=by kernel_rfl
 g18:=by kernel_rfl
 g19:=by kernel_rfl
 i0:=by kernel_rfl
 i2:=by kernel_rfl
 i3:=by kernel_rfl
 i4:=by kernel_rfl
 i5:=by kernel_rfl
 i9:=by kernel_rfl
 i20:=by kernel_rfl
 i37:=by kernel_rfl
 i46:=by kernel_rfl
 i51:=by kernel_rfl
 i53:=by kernel_rfl
 i171:=by kernel_rfl
 i173:=by kernel_rfl
 i212:=by kernel_rfl
 i232:=by kernel_rfl
 i233:=by kernel_rfl
 m17:=by kernel_rfl
 m18:=by kernel_rfl
 m19:=by kernel_rfl }
open Go.RowKit Go.Sort Go.Lib in
theorem Tryz.strconv_FormatInt_10 (n:Int) (h0 : -9223372036854775808≤n) (h1:n≤9223372036854775807) (w:World) (htab:Lib.TabIs Tryz.prog w "internal/strconv.uint64pow10" .u64 Lib.pow10Tab) :
  Calls Tryz.prog 163 #[.int .i64 n,.int .i64 10] w fun e w'=>e = .returned (.string ⟨(Lib.itoa n).toArray⟩)∧∃ k os,w'=grow (w.drewN k) os:=Any.strconv_FormatInt_10 Tryz.laysM173 n h0 h1 w htab
def Tryz.laysNm215_ren:Go.Shelf.Ren:=⟨fun | 15=>111 | n=>n,fun | 22=>30 | 3=>3 | 4=>4 | n=>n,fun | n=>n⟩
theorem Tryz.laysNm215:Go.Proofs.Lays2.n15 Tryz.prog Tryz.laysNm215_ren:={
 mixed:=by kernel_rfl
 f15:=Tryz.func111.trans (congrArg some (by kernel_rfl))
 t3:=Tryz.underlying3
 a3:=Tryz.isAgg3
 z3:=Tryz.sizeOf3
 v3:=Tryz.zeroValue3
 t4:=Tryz.underlying4
 a4:=Tryz.isAgg4
 z4:=Tryz.sizeOf4
 v4:=Tryz.zeroValue4
 t22:=Tryz.underlying30
 a22:=Tryz.isAgg30
 z22:=Tryz.sizeOf30
 v22:=Tryz.zeroValue30
 i3:=by kernel_rfl }
open Go.RowKit Go.Lib in
theorem Tryz.slices_Clone_int (b off n c:Nat) (zs:List Int) (w:World) (hz:n≤zs.length) (hbig:n * 8≤140737488355328) (hc:∀ j,j<zs.length→w.cell? ⟨b,off+j,none⟩=some (.int .i64 (zs.getD j 0))) :
  Calls Tryz.prog 111 #[.slice (some ⟨b,off,none⟩) n c] w fun e w'=>∃ v',e = .returned v'∧w'.ownsRow w.heap.size 3 1 v' n ((zs.take n).map (Value.int .i64))∧v' ≠ .slice none 0 0∧Below w.heap.size w w':=Any.slices_Clone_int Tryz.laysNm215 b off n c zs w hz hbig hc
open Go.RowKit Go.Lib in
theorem Tryz.slices_Clone_int_nil (n c:Nat) (w:World) :
  Calls Tryz.prog 111 #[.slice none n c] w fun e w'=>e = .returned (.slice none 0 0)∧w'=w:=Any.slices_Clone_int_nil Tryz.laysNm215 n c w
open Go.RowKit Go.Lib in
theorem Tryz.slices_Clone_int_zero (a:Addr) (c:Nat) (w:World) :
  Calls Tryz.prog 111 #[.slice (some a) 0 c] w fun e w'=>∃ v',e = .returned v'∧w'.ownsRow w.heap.size 3 1 v' 0 []∧v' ≠ .slice none 0 0∧Below w.heap.size w w':=Any.slices_Clone_int_zero Tryz.laysNm215 a c w
def Tryz.laysNm220_ren:Go.Shelf.Ren:=⟨fun | 20=>115 | n=>n,fun | 22=>30 | 3=>3 | 4=>4 | 0=>0 | n=>n,fun | n=>n⟩
theorem Tryz.laysNm220:Go.Proofs.Lays2.n20 Tryz.prog Tryz.laysNm220_ren:={
 mixed:=by kernel_rfl
 f20:=Tryz.func115.trans (congrArg some (by kernel_rfl))
 t0:=Tryz.underlying0
 a0:=Tryz.isAgg0
 z0:=Tryz.sizeOf0
 v0:=Tryz.zeroValue0
 t3:=Tryz.underlying3
 a3:=Tryz.isAgg3
 z3:=Tryz.sizeOf3
 v3:=Tryz.zeroValue3
 t4:=Tryz.underlying4
 a4:=Tryz.isAgg4
 z4:=Tryz.sizeOf4
 v4:=Tryz.zeroValue4
 t22:=Tryz.underlying30
 a22:=Tryz.isAgg30
 z22:=Tryz.sizeOf30
 v22:=Tryz.zeroValue30
 i3:=by kernel_rfl }
open Go.RowKit Go.Lib Go.Sort in
theorem Tryz.slices_Compact_int (blk off cap:Nat) (zs:List Int) (w:World) (hH:Holds (Value.int .i64) w blk off zs.toArray) (hsz:zs.length≤9223372036854775807) (hcap:zs.length≤cap) :
  Calls Tryz.prog 115 #[.slice (some ⟨blk,off,none⟩) zs.length cap] w fun e w'=>e = .returned (.slice (some ⟨blk,off,none⟩) (Lib.compact zs).length cap)∧∃ q,w'=putRow (Value.int .i64) (Sort.ahead w q) blk off (Lib.compact zs++List.replicate (zs.length-(Lib.compact zs).length) 0).toArray:=Any.slices_Compact_int Tryz.laysNm220 blk off cap zs w hH hsz hcap
open Go.RowKit Go.Lib Go.Sort in
theorem Tryz.slices_Compact_int_empty (a:Option Addr) (cap:Nat) (w:World) :
  Calls Tryz.prog 115 #[.slice a 0 cap] w fun e w'=>e = .returned (.slice a 0 cap)∧w'=w:=Any.slices_Compact_int_empty Tryz.laysNm220 a cap w
end Go.Proofs
namespace Go.Proofs.YteflhbfgpknabaaGreatDoor
open Go.Lib (hid)
open Go.RowKit
theorem itoa_le (n:Int) (h0 : -9223372036854775808≤n) (h1:n≤9223372036854775807):(Lib.itoa n).length≤21:=Lib.itoa_length_le n h0 h1
structure Tabs (w:World):Prop where
 pow:Lib.TabIs Tryz.prog w "internal/strconv.uint64pow10" .u64 Lib.pow10Tab
theorem cell_size {w:World} {p:Addr} {v:Value} (h:w.cell? p=some v):p.block<w.heap.size:=by
 unfold World.cell? at h
 split at h
 ·next e=>exact (Array.getElem?_eq_some_iff.1 e).1
 ·cases h
theorem tab_below {P:Program} {w w':World} {name:String} {k:IntKind} {zs:List Int} (h:Lib.TabIs P w name k zs) (hb:Below w.heap.size w w'):Lib.TabIs P w' name k zs:=by
 unfold Lib.TabIs World.var? at *
 cases hg:P.globalNamed name with
 | none=>simp [hg] at h
 | some g =>
  simp only [hg,Option.bind_some] at h ⊢
  have hlt:g<w.heap.size:=by
   rcases Nat.lt_or_ge g w.heap.size with h' | h'
   ·exact h'
   ·rw [Array.getElem?_eq_none h'] at h;simp at h
  rw [hb.block g hlt]
  exact h
theorem Tabs.below {w w':World} (t:Tabs w) (h:Below w.heap.size w w'):Tabs w' where
 pow:=tab_below t.pow h
theorem tab_grown {P:Program} {w w':World} {name:String} {k:IntKind} {zs:List Int} {r:Nat} (h:Lib.TabIs P w name k zs) (hg:w.grownBy w' (some r)) (hr:∀ g,P.globalNamed name=some g→g≠r):Lib.TabIs P w' name k zs:=by
 unfold Lib.TabIs World.var? at *
 cases hn:P.globalNamed name with
 | none=>simp [hn] at h
 | some g =>
  simp only [hn,Option.bind_some] at h ⊢
  have hlt:g<w.heap.size:=by
   rcases Nat.lt_or_ge g w.heap.size with h' | h'
   ·exact h'
   ·rw [Array.getElem?_eq_none h'] at h;simp at h
  rw [hg.block g hlt (fun e=>hr g hn (Option.some.inj e))]
  exact h
structure TabLt (r:Nat):Prop where
 pow:1<r
theorem pow_named:Tryz.prog.globalNamed "internal/strconv.uint64pow10"=some 1:=by kernel_rfl
theorem Tabs.lt {w:World} {r:Nat} (t:Tabs w) (h:w.heap.size≤r):TabLt r where
 pow:=by
  have h1:=t.pow
  unfold Lib.TabIs World.var? at h1
  simp only [pow_named,Option.bind_some] at h1
  rcases Nat.lt_or_ge 1 w.heap.size with h' | h'
  ·omega
  ·rw [Array.getElem?_eq_none h'] at h1;simp at h1
theorem Tabs.grown {w w':World} {r:Nat} (t:Tabs w) (hr:TabLt r) (hg:w.grownBy w' (some r)):Tabs w' where
 pow:=tab_grown t.pow hg (fun g hn=>by rw [pow_named] at hn;have:=Option.some.inj hn;have:=hr.pow;omega)
theorem below_grow {B:Nat} {a w:World} (h:Below B a w) (hB:B≤w.heap.size) (k:Nat) (os:Array Obj):Below B a (Sort.grow (w.drewN k) os) :=
 h.trans ⟨rfl,rfl,rfl,by simp [Sort.grow,World.drewN],fun i hi=>by
  show (w.heap++os)[i]?=w.heap[i]?
  rw [Array.getElem?_append_left (by omega)]⟩
theorem below_drewN {B:Nat} {a w:World} (h:Below B a w) (n:Nat):Below B a (w.drewN n):=⟨h.os,h.tape,h.output,h.size,h.block⟩
theorem itoa_any (n:Int) (w:World) (h1 : -9223372036854775808≤n) (h2:n≤9223372036854775807) (t:Tabs w) :
  Calls Tryz.prog 187 #[.int .i64 n] w fun e w'=>e = .returned (.string ⟨(Lib.itoa n).toArray⟩)∧Below w.heap.size w w' :=
 (Tryz.strconv_Itoa n h1 h2 w t.pow).mono fun _ _ ⟨he,k,os,hw⟩=>⟨he,by rw [hw];exact below_grow (Below.refl _ _) (Nat.le_refl _) k os⟩
theorem formatInt_any (n:Int) (w:World) (h1 : -9223372036854775808≤n) (h2:n≤9223372036854775807) (t:Tabs w) :
  Calls Tryz.prog 163 #[.int .i64 n,.int .i64 10] w fun e w'=>e = .returned (.string ⟨(Lib.itoa n).toArray⟩)∧Below w.heap.size w w' :=
 (Tryz.strconv_FormatInt_10 n h1 h2 w t.pow).mono fun _ _ ⟨he,k,os,hw⟩=>⟨he,by rw [hw];exact below_grow (Below.refl _ _) (Nat.le_refl _) k os⟩
end Go.Proofs.YteflhbfgpknabaaGreatDoor
namespace Go.Proofs.YteflhbfgpknabaaGreatDoor
open Go.Lib (hid)
open Go.RowKit
def Blk (W:World) (B:Nat) (t:TypeId) (cs:Array Value):Prop:=W.heap[B]?=some (.cells cs t (0,0))
theorem Blk.lt {W:World} {B:Nat} {t:TypeId} {cs:Array Value} (h:Blk W B t cs):B<W.heap.size:=(Array.getElem?_eq_some_iff.1 h).1
theorem Blk.cell {W:World} {B:Nat} {t:TypeId} {cs:Array Value} (h:Blk W B t cs) (i:Nat):W.cell? ⟨B,i,none⟩=cs[i]?:=by
 simp [World.cell?,show W.heap[B]?=_ from h]
theorem Blk.frozen {W:World} {B:Nat} {t:TypeId} {cs:Array Value} (h:Blk W B t cs) (i:Nat):W.frozen? ⟨B,i,none⟩=false:=by
 simp [World.frozen?,show W.heap[B]?=_ from h]
theorem Blk.new (W:World) (t:TypeId) (cs:Array Value):Blk (W.alloc (.cells cs t)) W.heap.size t cs:=World.alloc_heap_new W _
theorem Blk.alloc {W:World} {B:Nat} {t:TypeId} {cs:Array Value} (h:Blk W B t cs) (o:Obj):Blk (W.alloc o) B t cs:=(Below.heap_alloc W o B h.lt).trans h
theorem Blk.below {W W':World} {B:Nat} {t:TypeId} {cs:Array Value} (h:Blk W B t cs) (hb:Below W.heap.size W W'):Blk W' B t cs:=(hb.block B h.lt).trans h
theorem Blk.other {W:World} {B:Nat} {t:TypeId} {cs:Array Value} (h:Blk W B t cs) (a:Addr) (v:Value) (hne:B≠a.block):Blk (W.setCell a v) B t cs:=(Below.heap_setCell W a v B hne).trans h
theorem Blk.set {W:World} {B:Nat} {t:TypeId} {cs:Array Value} (h:Blk W B t cs) (i:Nat) (v:Value):Blk (W.setCell ⟨B,i,none⟩ v) B t (cs.setIfInBounds i v):=by
 have h':W.heap[B]'h.lt = .cells cs t (0,0):=(Array.getElem?_eq_some_iff.1 h).2
 show (W.heap.modify B _)[B]?=_
 rw [Array.getElem?_eq_getElem (by simpa using h.lt),Array.getElem_modify_self,h']
 rfl
theorem Blk.drewN {W:World} {B:Nat} {t:TypeId} {cs:Array Value} (h:Blk W B t cs) (n:Nat):Blk (W.drewN n) B t cs:=h
end Go.Proofs.YteflhbfgpknabaaGreatDoor
namespace Go.Proofs.YteflhbfgpknabaaGreatDoor
open Go.Lib (hid)
open Go.RowKit
theorem ret_tup {a b:Value} {x y:ByteArray} (h:x=y) (h2:a=b):Ending.returned (.tuple #[.string x,a]) = .returned (.tuple #[.string y,b]):=by rw [h,h2]
theorem below_step {w a b:World} (h:Below w.heap.size w a) (hb:Below a.heap.size a b):Below w.heap.size w b:=h.trans (hb.mono h.size)
end Go.Proofs.YteflhbfgpknabaaGreatDoor
namespace Go.Proofs.YteflhbfgpknabaaGreatDoor
open Go.Lib (hid)
open Go.RowKit
def ARd (w:World) (v:Value) (k:Nat) (rows:List (List Value)):Prop:=∃ a c,v = .slice a rows.length c ∧
 ∀ i (h:i<rows.length),∃ b o,a=some ⟨b,o,none⟩∧b<w.heap.size∧∀ j u,rows[i][j]?=some u→w.cell? ⟨b,o+i * k+j,none⟩=some u
theorem ARd.later {w w':World} {v:Value} {k:Nat} {rows:List (List Value)} (h:ARd w v k rows) (hb:Below w.heap.size w w'):ARd w' v k rows:=by
 obtain ⟨a,c,rfl,hr⟩:=h
 refine ⟨a,c,rfl,fun i hi=>?_⟩
 obtain ⟨b,o,ha,hlt,hc⟩:=hr i hi
 exact ⟨b,o,ha,Nat.lt_of_lt_of_le hlt hb.size,fun j u hj=>(hb.cell hlt).trans (hc j u hj)⟩
def dvC (d:Dv):List Value:=[.string d.name,.int .i64 d.lo,.int .i64 d.hi]
def rkC (r:Rk):List Value:=[.string r.name,.int .i64 r.kind,.int .i64 r.num,.int .i64 r.den,.int .i64 r.low,.int .i64 r.cnt]
def ptC (p:Pt):List Value:=[.int .i64 p.rank,.int .i64 p.shift,.int .i64 p.lo,.int .i64 p.hi]
def stC (x:St) (v:Value):List Value:=[.string x.name,.int .i64 x.div,.int .i64 x.num,.int .i64 x.den,v]
def cpC (c:Cp):List Value:=[.string c.name,.int .i64 c.frm,.int .i64 c.to,.int .i64 c.shift,.int .i64 c.only,.bool c.thr]
structure SpOk (S:Sp):Prop where
 d:S.ds.length≤1000
 r:S.rs.length≤1000
 s:S.ss.length≤1000
 c:S.cs.length≤1000
 dn:∀ x∈S.ds,x.name.size≤9223372036854775807
 rn:∀ x∈S.rs,x.name.size≤9223372036854775807
 sn:∀ x∈S.ss,x.name.size≤9223372036854775807
 cn:∀ x∈S.cs,x.name.size≤9223372036854775807
 sp:∀ x∈S.ss,x.parts.length≤1000
structure SpWk (S:Sp):Prop where
 dn:∀ x∈S.ds,x.name.size≤9223372036854775807
 rn:∀ x∈S.rs,x.name.size≤9223372036854775807
 sn:∀ x∈S.ss,x.name.size≤9223372036854775807
 cn:∀ x∈S.cs,x.name.size≤9223372036854775807
 sp:∀ x∈S.ss,x.parts.length≤1000
theorem SpWk.ok {S:Sp} (h:SpWk S) (l1:S.ds.length≤6) (l2:S.rs.length≤40) (l3:S.ss.length≤80) (l4:S.cs.length≤24):SpOk S:=⟨by omega,by omega,by omega,by omega,h.dn,h.rn,h.sn,h.cn,h.sp⟩
theorem SpOk.wk {S:Sp} (h:SpOk S):SpWk S:=⟨h.dn,h.rn,h.sn,h.cn,h.sp⟩
def i64 (n:Int):Prop:=-9223372036854775808≤n∧n≤9223372036854775807
structure SpRd (w:World) (v1 v2 v3 v4:Value) (f:Nat→Value) (S:Sp):Prop where
 d:ARd w v1 3 (S.ds.map dvC)
 r:ARd w v2 6 (S.rs.map rkC)
 s:ARd w v3 5 (S.ss.mapIdx fun i x=>stC x (f i))
 c:ARd w v4 6 (S.cs.map cpC)
 p:∀ i (h:i<S.ss.length),ARd w (f i) 4 (S.ss[i].parts.map ptC)
theorem SpRd.later {w w':World} {v1 v2 v3 v4:Value} {f:Nat→Value} {S:Sp} (h:SpRd w v1 v2 v3 v4 f S) (hb:Below w.heap.size w w'):SpRd w' v1 v2 v3 v4 f S :=
 ⟨h.d.later hb,h.r.later hb,h.s.later hb,h.c.later hb,fun i hi=>(h.p i hi).later hb⟩
theorem ARd.at {w:World} {v:Value} {k:Nat} {rows:List (List Value)} (h:ARd w v k rows) (i:Nat) (hi:i<rows.length):∃ b o c,v = .slice (some ⟨b,o,none⟩) rows.length c∧b<w.heap.size ∧
  ∀ j u,rows[i][j]?=some u→w.cell? ⟨b,o+i * k+j,none⟩=some u:=by
 obtain ⟨a,c,rfl,hr⟩:=h
 obtain ⟨b,o,rfl,hlt,hc⟩:=hr i hi
 exact ⟨b,o,c,rfl,hlt,hc⟩
theorem SpRd.dAt {w:World} {v1 v2 v3 v4:Value} {f:Nat→Value} {S:Sp} (h:SpRd w v1 v2 v3 v4 f S) (i:Nat) (hi:i<S.ds.length):∃ b o c,v1 = .slice (some ⟨b,o,none⟩) S.ds.length c∧b<w.heap.size ∧
  w.cell? ⟨b,o+i * 3,none⟩=some (.string S.ds[i].name)∧w.cell? ⟨b,o+i * 3+1,none⟩=some (.int .i64 S.ds[i].lo)∧w.cell? ⟨b,o+i * 3+2,none⟩=some (.int .i64 S.ds[i].hi):=by
 obtain ⟨b,o,c,e,hlt,hc⟩:=h.d.at i (by simpa using hi)
 rw [List.getElem_map] at hc
 exact ⟨b,o,c,by simpa using e,hlt,hc 0 _ rfl,hc 1 _ rfl,hc 2 _ rfl⟩
theorem SpRd.rAt {w:World} {v1 v2 v3 v4:Value} {f:Nat→Value} {S:Sp} (h:SpRd w v1 v2 v3 v4 f S) (i:Nat) (hi:i<S.rs.length):∃ b o c,v2 = .slice (some ⟨b,o,none⟩) S.rs.length c∧b<w.heap.size ∧
  w.cell? ⟨b,o+i * 6,none⟩=some (.string S.rs[i].name)∧w.cell? ⟨b,o+i * 6+1,none⟩=some (.int .i64 S.rs[i].kind)∧w.cell? ⟨b,o+i * 6+2,none⟩=some (.int .i64 S.rs[i].num)∧w.cell? ⟨b,o+i * 6+3,none⟩=some (.int .i64 S.rs[i].den)∧w.cell? ⟨b,o+i * 6+4,none⟩=some (.int .i64 S.rs[i].low)∧w.cell? ⟨b,o+i * 6+5,none⟩=some (.int .i64 S.rs[i].cnt):=by
 obtain ⟨b,o,c,e,hlt,hc⟩:=h.r.at i (by simpa using hi)
 rw [List.getElem_map] at hc
 exact ⟨b,o,c,by simpa using e,hlt,hc 0 _ rfl,hc 1 _ rfl,hc 2 _ rfl,hc 3 _ rfl,hc 4 _ rfl,hc 5 _ rfl⟩
theorem SpRd.sAt {w:World} {v1 v2 v3 v4:Value} {f:Nat→Value} {S:Sp} (h:SpRd w v1 v2 v3 v4 f S) (i:Nat) (hi:i<S.ss.length):∃ b o c,v3 = .slice (some ⟨b,o,none⟩) S.ss.length c∧b<w.heap.size ∧
  w.cell? ⟨b,o+i * 5,none⟩=some (.string S.ss[i].name)∧w.cell? ⟨b,o+i * 5+1,none⟩=some (.int .i64 S.ss[i].div)∧w.cell? ⟨b,o+i * 5+2,none⟩=some (.int .i64 S.ss[i].num)∧w.cell? ⟨b,o+i * 5+3,none⟩=some (.int .i64 S.ss[i].den)∧w.cell? ⟨b,o+i * 5+4,none⟩=some (f i):=by
 obtain ⟨b,o,c,e,hlt,hc⟩:=h.s.at i (by simpa using hi)
 rw [List.getElem_mapIdx] at hc
 exact ⟨b,o,c,by simpa using e,hlt,hc 0 _ rfl,hc 1 _ rfl,hc 2 _ rfl,hc 3 _ rfl,hc 4 _ rfl⟩
theorem SpRd.cAt {w:World} {v1 v2 v3 v4:Value} {f:Nat→Value} {S:Sp} (h:SpRd w v1 v2 v3 v4 f S) (i:Nat) (hi:i<S.cs.length):∃ b o c,v4 = .slice (some ⟨b,o,none⟩) S.cs.length c∧b<w.heap.size ∧
  w.cell? ⟨b,o+i * 6,none⟩=some (.string S.cs[i].name)∧w.cell? ⟨b,o+i * 6+1,none⟩=some (.int .i64 S.cs[i].frm)∧w.cell? ⟨b,o+i * 6+2,none⟩=some (.int .i64 S.cs[i].to)∧w.cell? ⟨b,o+i * 6+3,none⟩=some (.int .i64 S.cs[i].shift)∧w.cell? ⟨b,o+i * 6+4,none⟩=some (.int .i64 S.cs[i].only)∧w.cell? ⟨b,o+i * 6+5,none⟩=some (.bool S.cs[i].thr):=by
 obtain ⟨b,o,c,e,hlt,hc⟩:=h.c.at i (by simpa using hi)
 rw [List.getElem_map] at hc
 exact ⟨b,o,c,by simpa using e,hlt,hc 0 _ rfl,hc 1 _ rfl,hc 2 _ rfl,hc 3 _ rfl,hc 4 _ rfl,hc 5 _ rfl⟩
theorem SpRd.pAt {w:World} {v1 v2 v3 v4:Value} {f:Nat→Value} {S:Sp} (h:SpRd w v1 v2 v3 v4 f S) (i:Nat) (hi:i<S.ss.length) (k:Nat) (hk:k<S.ss[i].parts.length):∃ b o c,f i = .slice (some ⟨b,o,none⟩) S.ss[i].parts.length c∧b<w.heap.size ∧
  w.cell? ⟨b,o+k * 4,none⟩=some (.int .i64 S.ss[i].parts[k].rank)∧w.cell? ⟨b,o+k * 4+1,none⟩=some (.int .i64 S.ss[i].parts[k].shift)∧w.cell? ⟨b,o+k * 4+2,none⟩=some (.int .i64 S.ss[i].parts[k].lo)∧w.cell? ⟨b,o+k * 4+3,none⟩=some (.int .i64 S.ss[i].parts[k].hi):=by
 obtain ⟨b,o,c,e,hlt,hc⟩:=(h.p i hi).at k (by simpa using hk)
 rw [List.getElem_map] at hc
 exact ⟨b,o,c,by simpa using e,hlt,hc 0 _ rfl,hc 1 _ rfl,hc 2 _ rfl,hc 3 _ rfl⟩
theorem ARd.form {w:World} {v:Value} {k:Nat} {rows:List (List Value)} (h:ARd w v k rows):∃ a c,v = .slice a rows.length c:=by
 obtain ⟨a,c,e,_⟩:=h
 exact ⟨a,c,e⟩
theorem SpRd.forms {w:World} {v1 v2 v3 v4:Value} {f:Nat→Value} {S:Sp} (h:SpRd w v1 v2 v3 v4 f S):(∃ a c,v1 = .slice a S.ds.length c)∧(∃ a c,v2 = .slice a S.rs.length c)∧(∃ a c,v3 = .slice a S.ss.length c)∧(∃ a c,v4 = .slice a S.cs.length c):=by
 obtain ⟨a1,c1,e1⟩:=h.d.form
 obtain ⟨a2,c2,e2⟩:=h.r.form
 obtain ⟨a3,c3,e3⟩:=h.s.form
 obtain ⟨a4,c4,e4⟩:=h.c.form
 exact ⟨⟨a1,c1,by simpa using e1⟩,⟨a2,c2,by simpa using e2⟩,⟨a3,c3,by simpa using e3⟩,⟨a4,c4,by simpa using e4⟩⟩
theorem Blk.four {W:World} {B:Nat} {t:TypeId} {a b c d:Value} (h:Blk W B t #[a,b,c,d]):W.cell? ⟨B,0,none⟩=some a∧W.cell? ⟨B,1,none⟩=some b∧W.cell? ⟨B,2,none⟩=some c∧W.cell? ⟨B,3,none⟩=some d :=
 ⟨h.cell 0,h.cell 1,h.cell 2,h.cell 3⟩
end Go.Proofs.YteflhbfgpknabaaGreatDoor
namespace Go.Proofs.YteflhbfgpknabaaGreatDoor
open Go.Lib (hid)
open Go.ChangeShapes Go.WideShapes Go.RowKit Go.Deep
theorem spot_none {w:World} {a:Addr} {v:Value} (h:w.cell? a=some v):a=⟨a.block,a.off,none⟩:=by
 obtain ⟨b,o,s⟩:=a
 cases s with
 | none=>rfl
 | some x =>
  unfold World.cell? at h
  split at h
  ·simp at h
  ·cases h
theorem add_at (b o n:Nat):(⟨b,o,none⟩:Addr).add n=⟨b,o+n,none⟩:=by
 unfold Addr.add
 split
 ·next h=>subst h;rfl
 ·rfl
theorem wf_i64 {a:Int} (h:(Lit.int .i64 a).wf=true):i64 a:=by
 have h2:IntKind.i64.min≤a∧a≤IntKind.i64.max:=by simpa only [Lit.wf,Bool.and_eq_true,decide_eq_true_eq] using h
 have e1:IntKind.i64.min = -9223372036854775808:=rfl
 have e2:IntKind.i64.max=9223372036854775807:=rfl
 unfold i64
 omega
section
variable {H : Type} {enc : TypeId × Value → H} {P : Program} {w : World} {base : Nat} {spare : Nat → Bool} {held : Bool}
theorem fld {t:TypeId} {fs:Array Field} {n:Nat} {cs:List Value} {y:DataW H × List MemPlace} (ht:P.underlying t=some (.struct fs)) (h:DataW.trod enc P w base spare held n t cs=some y) (i:Nat) (f:Field) (hf:fs[i]?=some f) :
  ∃ (m:Nat) (z:DataW H × List MemPlace),DataW.trod enc P w base spare held m f.type ((cs.drop f.offset).take (P.cellsOf f.type))=some z:=by
 obtain ⟨xs,m,_,_,_,hl,hx⟩:=DataW.trod_struct ht h
 have hi:=(Array.getElem?_eq_some_iff.1 hf).1
 exact ⟨m,_,(hx i f hf).trans (List.getElem?_eq_getElem (by omega))⟩
theorem fld_int {t:TypeId} {fs:Array Field} {n:Nat} {cs:List Value} {y:DataW H × List MemPlace} (ht:P.underlying t=some (.struct fs)) (h:DataW.trod enc P w base spare held n t cs=some y) (i:Nat) (f:Field) (hf:fs[i]?=some f)
  (hu:P.underlying f.type=some (.int .i64)):∃ z:Int,cs[f.offset]?=some (.int .i64 z)∧i64 z:=by
 obtain ⟨m,z,hz⟩:=fld ht h i f hf
 obtain ⟨k,hk,_,hw⟩:=DataW.trod_int hu hz
 refine ⟨k,?_,wf_i64 hw⟩
 have h0:((cs.drop f.offset).take (P.cellsOf f.type))[0]?=some (.int .i64 k):=by rw [hk];rfl
 rw [List.getElem?_take] at h0
 split at h0
 ·rw [List.getElem?_drop,Nat.add_zero] at h0;exact h0
 ·cases h0
theorem fld_bool {t:TypeId} {fs:Array Field} {n:Nat} {cs:List Value} {y:DataW H × List MemPlace} (ht:P.underlying t=some (.struct fs)) (h:DataW.trod enc P w base spare held n t cs=some y) (i:Nat) (f:Field) (hf:fs[i]?=some f)
  (hu:P.underlying f.type=some .bool):∃ z:Bool,cs[f.offset]?=some (.bool z):=by
 obtain ⟨m,z,hz⟩:=fld ht h i f hf
 obtain ⟨k,hk,_⟩:=DataW.trod_bool hu hz
 refine ⟨k,?_⟩
 have h0:((cs.drop f.offset).take (P.cellsOf f.type))[0]?=some (.bool k):=by rw [hk];rfl
 rw [List.getElem?_take] at h0
 split at h0
 ·rw [List.getElem?_drop,Nat.add_zero] at h0;exact h0
 ·cases h0
theorem fld_two {t:TypeId} {fs gs:Array Field} {n:Nat} {cs:List Value} {y:DataW H × List MemPlace} (ht:P.underlying t=some (.struct fs)) (h:DataW.trod enc P w base spare held n t cs=some y) (i:Nat) (f f0 f1:Field) (hf:fs[i]?=some f)
  (hu:P.underlying f.type=some (.struct gs)) (h0:gs[0]?=some f0) (h1:gs[1]?=some f1) (u0:P.underlying f0.type=some (.int .i64)) (u1:P.underlying f1.type=some (.int .i64)) :
  ∃ a b:Int,cs[f.offset+f0.offset]?=some (.int .i64 a)∧cs[f.offset+f1.offset]?=some (.int .i64 b)∧i64 a∧i64 b:=by
 obtain ⟨m,z,hz⟩:=fld ht h i f hf
 obtain ⟨a,ha,wa⟩:=fld_int hu hz 0 f0 h0 u0
 obtain ⟨b,hb,wb⟩:=fld_int hu hz 1 f1 h1 u1
 refine ⟨a,b,?_,?_,wa,wb⟩
 ·rw [List.getElem?_take] at ha
  split at ha
  ·rw [List.getElem?_drop] at ha;exact ha
  ·cases ha
 ·rw [List.getElem?_take] at hb
  split at hb
  ·rw [List.getElem?_drop] at hb;exact hb
  ·cases hb
theorem len_struct {t:TypeId} {fs:Array Field} {n:Nat} {cs:List Value} {y:DataW H × List MemPlace} (ht:P.underlying t=some (.struct fs)) (h:DataW.trod enc P w base spare held n t cs=some y):cs.length=P.cellsOf t:=by
 obtain ⟨xs,m,_,_,hl,_⟩:=DataW.trod_struct ht h
 exact hl
theorem slice_rows {α:Type} {t e:TypeId} {fuel k:Nat} {cs:List Value} {x:DataW H × List MemPlace} (cells:α→List Value) (Good:α→Prop) (ht:P.underlying t=some (.slice e)) (hC:P.cellsOf e=k) (hk:0<k)
  (each:∀ n cs' y,DataW.trod enc P w base spare held n e cs'=some y→∃ r:α,cs'=cells r∧Good r) (h:DataW.trod enc P w base spare held fuel t cs=some x) :
  ∃ (v:Value) (rows:List α),cs=[v]∧ARd w v k (rows.map cells)∧∀ r∈rows,Good r:=by
 rcases open_slice ht h with ⟨hc,_⟩ | ⟨a,len,cap,m,n,D,Pl,hc,_,hlc,_,hm,_,hi⟩
 ·exact ⟨_,[],hc,⟨none,0,rfl,fun i h=>absurd h (Nat.not_lt_zero i)⟩,fun r h=>by cases h⟩
 ·rw [hC] at hi
  have hml:len≤m:=by rw [hm];split <;> omega
  have pick:∀ i:Fin len,∃ r:α,w.cells? base (a.add (i.val * k)) k=some (cells r)∧Good r:=fun i=>by
   obtain ⟨cs',h1,h2⟩:=hi i.val (by omega)
   obtain ⟨r,hr,hg⟩:=each _ _ _ h2
   exact ⟨r,by rw [h1,hr],hg⟩
  obtain ⟨rows,hlen,hrow⟩:∃ rows:List α,rows.length=len∧∀ i (h:i<rows.length),w.cells? base (a.add (i * k)) k=some (cells rows[i])∧Good rows[i]:=by
   refine ⟨List.ofFn fun i:Fin len=>Classical.choose (pick i),by simp,fun i h=>?_⟩
   have hil:i<len:=by simpa using h
   simp only [List.getElem_ofFn]
   exact Classical.choose_spec (pick ⟨i,hil⟩)
  refine ⟨_,rows,hc,⟨some a,cap,by simp [hlen],fun i hi'=>?_⟩,fun r hr=>?_⟩
  ·have hil:i<rows.length:=by simpa using hi'
   obtain ⟨_,hl,hcell⟩:=World.cells?_some (hrow i hil).1
   obtain ⟨_,hl0,hcell0⟩:=World.cells?_some (hrow 0 (by omega)).1
   have h1:=hcell0 0 hk
   rw [Nat.zero_mul] at h1
   obtain ⟨u0,hu0⟩:∃ u,(cells rows[0])[0]?=some u:=⟨_,List.getElem?_eq_getElem (show 0<(cells rows[0]).length by omega)⟩
   rw [hu0] at h1
   have h1:w.cell? a=some u0:=h1
   have hs:=spot_none h1
   refine ⟨a.block,a.off,by rw [← hs],cell_size h1,fun j u hj=>?_⟩
   rw [List.getElem_map] at hj
   have hjk:j<k:=by
    have:=(List.getElem?_eq_some_iff.1 hj).1
    omega
   have h2:=hcell j hjk
   rw [hs,add_at,add_at] at h2
   rw [h2]
   exact hj
  ·obtain ⟨i,hi',rfl⟩:=List.mem_iff_getElem.1 hr
   exact (hrow i hi').2
end
theorem list3 {cs:List Value} {a b c:Value} (hl:cs.length=3) (h0:cs[0]?=some a) (h1:cs[1]?=some b) (h2:cs[2]?=some c):cs=[a,b,c]:=by
 match cs,hl with
 | [_,_,_],_=>simp at h0 h1 h2;rw [h0,h1,h2]
theorem list4 {cs:List Value} {a b c d:Value} (hl:cs.length=4) (h0:cs[0]?=some a) (h1:cs[1]?=some b) (h2:cs[2]?=some c) (h3:cs[3]?=some d):cs=[a,b,c,d]:=by
 match cs,hl with
 | [_,_,_,_],_=>simp at h0 h1 h2 h3;rw [h0,h1,h2,h3]
theorem list5 {cs:List Value} {a b c d e:Value} (hl:cs.length=5) (h0:cs[0]?=some a) (h1:cs[1]?=some b) (h2:cs[2]?=some c) (h3:cs[3]?=some d) (h4:cs[4]?=some e):cs=[a,b,c,d,e]:=by
 match cs,hl with
 | [_,_,_,_,_],_=>simp at h0 h1 h2 h3 h4;rw [h0,h1,h2,h3,h4]
theorem list6 {cs:List Value} {a b c d e f:Value} (hl:cs.length=6) (h0:cs[0]?=some a) (h1:cs[1]?=some b) (h2:cs[2]?=some c) (h3:cs[3]?=some d) (h4:cs[4]?=some e) (h5:cs[5]?=some f):cs=[a,b,c,d,e,f]:=by
 match cs,hl with
 | [_,_,_,_,_,_],_=>simp at h0 h1 h2 h3 h4 h5;rw [h0,h1,h2,h3,h4,h5]
section
variable {H : Type} {enc : TypeId × Value → H} {W : World} {base : Nat} {spare : Nat → Bool} {held : Bool}
theorem cO_dv:Tryz.prog.cellsOf 109=3:=by kernel_rfl
theorem cO_rk:Tryz.prog.cellsOf 63=6:=by kernel_rfl
theorem cO_st:Tryz.prog.cellsOf 66=5:=by kernel_rfl
theorem cO_pt:Tryz.prog.cellsOf 105=4:=by kernel_rfl
theorem cO_cp:Tryz.prog.cellsOf 145=6:=by kernel_rfl
theorem pt_open (n:Nat) (cs:List Value) (y:DataW H × List MemPlace) (h:DataW.trod enc Tryz.prog W base spare held n 105 cs=some y):∃ p:Pt,cs=ptC p∧i64 p.rank∧i64 p.shift∧i64 p.lo∧i64 p.hi:=by
 have hl:=(len_struct Tryz.underlying105 h).trans cO_pt
 obtain ⟨a,ha,wa⟩:=fld_int Tryz.underlying105 h 0 _ rfl Tryz.underlying3
 obtain ⟨b,hb,wb⟩:=fld_int Tryz.underlying105 h 1 _ rfl Tryz.underlying3
 obtain ⟨c,hc,wc⟩:=fld_int Tryz.underlying105 h 2 _ rfl Tryz.underlying3
 obtain ⟨d,hd,wd⟩:=fld_int Tryz.underlying105 h 3 _ rfl Tryz.underlying3
 exact ⟨⟨a,b,c,d⟩,list4 hl ha hb hc hd,wa,wb,wc,wd⟩
end
end Go.Proofs.YteflhbfgpknabaaGreatDoor
namespace Go.Proofs.YteflhbfgpknabaaGreatDoor
open Go.Lib (hid)
theorem ofInt_word {a:Nat} (h:a<2 ^ 64):(BitVec.ofInt 64 (a:Int)).toNat=a:=by
 rw [BitVec.ofInt_natCast,BitVec.toNat_ofNat]
 exact Nat.mod_eq_of_lt h
theorem word_wrap {a:Nat} (h:a<2 ^ 64):IntKind.u64.wrap (a:Int)=(a:Int):=by
 rw [IntKind.wrap_u64]
 omega
theorem word_or {a b:Nat} (ha:a<2 ^ 64) (hb:b<2 ^ 64):bits .or .u64 (a:Int) (b:Int)=((a ||| b:Nat):Int):=by
 show IntKind.u64.wrap ((BitVec.ofInt 64 (a:Int) ||| BitVec.ofInt 64 (b:Int)).toNat:Int)=_
 rw [BitVec.toNat_or,ofInt_word ha,ofInt_word hb]
 exact word_wrap (Nat.or_lt_two_pow ha hb)
theorem word_and {a b:Nat} (ha:a<2 ^ 64) (hb:b<2 ^ 64):bits .and .u64 (a:Int) (b:Int)=((a &&& b:Nat):Int):=by
 show IntKind.u64.wrap ((BitVec.ofInt 64 (a:Int) &&& BitVec.ofInt 64 (b:Int)).toNat:Int)=_
 rw [BitVec.toNat_and,ofInt_word ha,ofInt_word hb]
 exact word_wrap (Nat.lt_of_le_of_lt Nat.and_le_left ha)
abbrev Rw:=Nat × Nat
structure RwOk (q:Rw):Prop where
 lo:q.1<2 ^ 64
 hi:q.2<2 ^ 64
def hole (q:Rw) (t:Nat):Bool:=if t<64 then q.1.testBit t else q.2.testBit (t-64)
theorem pow_word {s:Nat} (h:s<64):(2:Nat) ^ s<2 ^ 64:=Nat.pow_lt_pow_right (by omega) h
def runE (f:Nat→Bool):Nat→Nat
 | 0=>if f 0 then 1 else 0
 | t+1=>if f (t+1) then runE f t+1 else 0
def firstErr (f:Nat→Int):Nat→Int
 | 0=>0
 | n+1=>if firstErr f n=0 then f n else firstErr f n
theorem firstErr_next {f:Nat→Int} {k:Nat} (h:firstErr f k=0):firstErr f (k+1)=f k:=by rw [firstErr,if_pos h]
theorem firstErr_at {f:Nat→Int} {k:Nat} (he:firstErr f k≠0):∀ {n:Nat},k≤n→firstErr f n=firstErr f k
 | 0,h => by
  have:k=0:=by omega
  subst this
  rfl
 | n+1,h=>by
  by_cases e:k=n+1
  ·rw [e]
  ·have:=firstErr_at he (n:=n) (by omega)
   rw [firstErr,if_neg (by rw [this];exact he),this]
theorem firstErr_none {f:Nat→Int}:∀ {n:Nat},firstErr f n=0→∀ j,j<n→f j=0
 | 0,_,j,hj => by omega
 | n+1,h,j,hj=>by
  rw [firstErr] at h
  by_cases e:firstErr f n=0
  ·rw [if_pos e] at h
   by_cases q:j=n
   ·rw [q];exact h
   ·exact firstErr_none e j (by omega)
  ·rw [if_neg e] at h
   exact absurd h e
theorem firstErr_zero {f:Nat→Int}:∀ {n:Nat},(∀ j,j<n→f j=0)→firstErr f n=0
 | 0,_ => rfl
 | n+1,h=>by rw [firstErr_next (firstErr_zero fun j hj=>h j (by omega)),h n (by omega)]
theorem getD_at {α:Type} {l:List α} {k:Nat} (h:k<l.length) (d:α):l.getD k d=l[k]:=by
 rw [List.getD_eq_getElem?_getD,List.getElem?_eq_getElem h]
 rfl
abbrev Th:=Int × Int × Int
def keyIn (S:Sp) (div n:Int):Bool:=match S.ds[div.toNat]? with
 | some d=>decide (d.lo≤n∧n≤d.hi)
 | none=>true
theorem dv_small {S:Sp} (h:(checkP S).2=0) {d:Dv} (hd:d∈S.ds):0≤d.lo∧d.hi≤127:=by
 unfold checkP at h
 split at h
 ·cases h
 ·cases e:fst0 (errD S) S.ds.length with
  | some i =>
   rw [e] at h
   simp only at h
   exact absurd h (fst0_is e).2.1
  | none =>
   obtain ⟨k,hk,rfl⟩:=List.getElem_of_mem hd
   have h1:=fst0_none.1 e k hk
   unfold errD at h1
   rw [List.getElem?_eq_getElem hk] at h1
   simp only at h1
   unfold nmE at h1
   split at h1
   ·cases h1
   ·split at h1
    ·cases h1
    ·unfold dvE at h1
     split at h1
     ·omega
     ·cases h1
variable (sl : Nat → List (Nat × Nat)) (m w : Nat)
variable {sl m w} {qs qs' : List Rw} {k j c : Nat} {pre : List (Nat × Nat)} {s : Nat × Nat}
end Go.Proofs.YteflhbfgpknabaaGreatDoor
namespace Go.Proofs.YteflhbfgpknabaaGreatDoor
open Go.Lib (hid)
def upL (x:Nat):List Nat:=(List.range 64).filter fun i=>x.testBit i
def nts (q:Rw):List Nat:=(List.range 128).filter fun t=>hole q t
def orR (q:Rw) (t:Nat):Rw:=if t<64 then (q.1 ||| 2 ^ t,q.2) else (q.1,q.2 ||| 2 ^ (t-64))
theorem orR_ok {q:Rw} {t:Nat} (h:RwOk q) (ht:t<128):RwOk (orR q t):=by
 unfold orR
 split
 ·exact ⟨Nat.or_lt_two_pow h.lo (pow_word (by omega)),h.hi⟩
 ·exact ⟨h.lo,Nat.or_lt_two_pow h.hi (pow_word (by omega))⟩
theorem orR_hole {q:Rw} {t u:Nat} (ht:t<128) (hu:u<128):hole (orR q t) u=(decide (u=t)||hole q u):=by
 unfold orR hole
 split
 ·rename_i h
  split
  ·rw [Nat.testBit_or,Nat.testBit_two_pow,Bool.or_comm]
   congr 1
   rw [decide_eq_decide]
   omega
  ·rename_i h2
   rw [decide_eq_false (by omega),Bool.false_or]
 ·rename_i h
  split
  ·rename_i h2
   rw [decide_eq_false (by omega),Bool.false_or]
  ·rw [Nat.testBit_or,Nat.testBit_two_pow,Bool.or_comm]
   congr 1
   rw [decide_eq_decide]
   omega
theorem nts_split (q:Rw):nts q=upL q.1++(upL q.2).map (64 + ·):=by
 unfold nts upL
 rw [show List.range 128=List.range 64++(List.range 64).map (64 + ·) from by rw [← List.range_add],List.filter_append]
 have e1:(List.range 64).filter (fun t=>hole q t)=(List.range 64).filter fun i=>q.1.testBit i:=List.filter_congr fun t ht=>by
  unfold hole
  rw [if_pos (List.mem_range.1 ht)]
 have e2:((List.range 64).map (64 + ·)).filter (fun t=>hole q t)=((List.range 64).filter fun i=>q.2.testBit i).map (64 + ·):=by
  rw [List.filter_map]
  refine congrArg (List.map (64 + ·)) (List.filter_congr fun t _=>?_)
  simp only [Function.comp]
  unfold hole
  rw [if_neg (by omega),Nat.add_sub_cancel_left]
 rw [e1,e2]
theorem mem_nts {q:Rw} {t:Nat}:t∈nts q↔t<128∧hole q t=true:=by
 unfold nts
 rw [List.mem_filter,List.mem_range]
theorem nts_len (q:Rw):(nts q).length≤128:=by
 have:=List.length_filter_le (fun t=>hole q t) (List.range 128)
 rw [List.length_range] at this
 exact this
theorem upL_zero:upL 0=[]:=by
 unfold upL
 rw [List.filter_eq_nil_iff]
 intro i _
 simp
theorem and_pred (k m i:Nat):((2 ^ k * (2 * m+1)) &&& (2 ^ k * (2 * m+1)-1)).testBit i=(decide (k<i)&&(2 ^ k * (2 * m+1)).testBit i):=by
 have hp:0<2 ^ k:=Nat.two_pow_pos k
 have e:2 ^ k * (2 * m+1)-1=2 ^ k * (2 * m)+(2 ^ k-1):=by
  rw [Nat.mul_add,Nat.mul_one]
  omega
 rw [Nat.testBit_and,e,Nat.testBit_two_pow_mul_add _ (by omega),Nat.testBit_two_pow_mul]
 by_cases h1:i<k
 ·rw [if_pos h1]
  simp only [ge_iff_le,decide_eq_false (show ¬ k≤i by omega),decide_eq_false (show ¬ k<i by omega),Bool.false_and]
 ·rw [if_neg h1]
  simp only [ge_iff_le,decide_eq_true (show k≤i by omega),Bool.true_and]
  by_cases h2:i=k
  ·subst h2
   simp
  ·obtain ⟨j,rfl⟩:∃ j,i=k+(j+1):=⟨i-k-1,by omega⟩
   rw [show k+(j+1)-k=j+1 by omega,Nat.testBit_succ,Nat.testBit_succ,decide_eq_true (show k<k+(j+1) by omega)]
   rw [show (2 * m+1) / 2=m by omega,show 2 * m / 2=m by omega]
   simp
theorem upL_step {x:Nat} (h0:x≠0) (h:x<2 ^ 64):upL x=Lib.ctz 64 x :: upL (x &&& (x-1)):=by
 unfold Lib.ctz
 rw [if_neg h0]
 obtain ⟨m,hm,hl⟩:=Lib.ctzFrom_spec 64 x (Nat.pos_of_ne_zero h0) h
 generalize Lib.ctzFrom 64 x=c at *
 unfold upL
 have e:∀ i,(x &&& (x-1)).testBit i=(decide (c<i)&&x.testBit i):=fun i=>by rw [hm];exact and_pred c m i
 have e0:∀ i,i<c→x.testBit i=false:=fun i hi=>by rw [hm,Nat.testBit_two_pow_mul,decide_eq_false (by simpa using hi),Bool.false_and]
 have e1:x.testBit c=true:=by rw [hm,Nat.testBit_two_pow_mul];simp
 obtain ⟨d,hd⟩:∃ d,64=c+(d+1):=⟨64-(c+1),by omega⟩
 rw [hd,List.range_add,List.filter_append,List.filter_append,List.range_succ_eq_map,List.map_cons,Nat.add_zero,List.filter_cons_of_pos e1,List.filter_cons_of_neg (by rw [e];simp)]
 have z1:(List.range c).filter (fun i=>x.testBit i)=[]:=List.filter_eq_nil_iff.2 fun i hi=>by rw [e0 i (List.mem_range.1 hi)];simp
 have z2:(List.range c).filter (fun i=>(x &&& (x-1)).testBit i)=[]:=List.filter_eq_nil_iff.2 fun i hi=>by rw [e,e0 i (List.mem_range.1 hi)];simp
 rw [z1,z2,List.nil_append,List.nil_append]
 congr 1
 refine List.filter_congr fun i hi=>?_
 obtain ⟨j,hj,rfl⟩:=List.mem_map.1 hi
 obtain ⟨j',_,rfl⟩:=List.mem_map.1 hj
 rw [e,decide_eq_true (by omega),Bool.true_and]
theorem and_pred_lt {x:Nat} (h:x<2 ^ 64):x &&& (x-1)<2 ^ 64:=Nat.lt_of_le_of_lt Nat.and_le_left h
theorem upL_len {x:Nat} (h0:x≠0) (h:x<2 ^ 64):(upL (x &&& (x-1))).length<(upL x).length:=by
 rw [upL_step h0 h,List.length_cons]
 omega
def SetIs (q:Rw) (f:Nat→Bool):Prop:=RwOk q∧∀ t,t<128→hole q t=f t
theorem SetIs.zero:SetIs (0,0) fun _=>false:=⟨⟨by decide,by decide⟩,fun t _=>by unfold hole;split <;> simp⟩
theorem SetIs.or {q:Rw} {f:Nat→Bool} (h:SetIs q f) {t:Nat} (ht:t<128):SetIs (orR q t) fun u=>decide (u=t)||f u :=
 ⟨orR_ok h.1 ht,fun u hu=>by rw [orR_hole ht hu,h.2 u hu]⟩
theorem SetIs.congr {q:Rw} {f g:Nat→Bool} (h:SetIs q f) (e:∀ t,t<128→f t=g t):SetIs q g:=⟨h.1,fun t ht=>(h.2 t ht).trans (e t ht)⟩
end Go.Proofs.YteflhbfgpknabaaGreatDoor
namespace Go.Proofs.YteflhbfgpknabaaGreatDoor
open Go.Lib (hid)
open Go.RowKit Go.Shelf
theorem pow_wrap {s:Nat} (h:s<64):IntKind.u64.wrap (2 ^ s:Int)=((2 ^ s:Nat):Int):=by
 have:=word_wrap (pow_word h)
 rw [← this]
 push_cast
 rfl
theorem or_bits {a s:Nat} (ha:a<2 ^ 64) (h:s<64):bits .or .u64 (a:Int) (IntKind.u64.wrap (2 ^ s:Int))=((a ||| 2 ^ s:Nat):Int):=by
 rw [pow_wrap h]
 exact word_or ha (pow_word h)
theorem bit_and {a:Nat} (ha:a<2 ^ 64) (t:Nat):(bits .and .u64 ((a:Int) / 2 ^ t) 1==1)=a.testBit t:=by
 have e:((a:Int) / 2 ^ t)=((a / 2 ^ t:Nat):Int):=by push_cast;rfl
 have h1:a / 2 ^ t<2 ^ 64:=Nat.lt_of_le_of_lt (Nat.div_le_self _ _) ha
 have h2:=word_and (a:=a / 2 ^ t) (b:=1) h1 (by decide)
 rw [e]
 rw [show ((1:Nat):Int)=1 from rfl] at h2
 rw [h2,Nat.and_one_is_mod,Nat.testBit_eq_decide_div_mod_eq]
 rw [Bool.eq_iff_iff]
 simp only [beq_iff_eq,decide_eq_true_eq]
 omega
theorem ret_b {a b:Bool} (h:a=b):Ending.returned (.bool a) = .returned (.bool b):=by rw [h]
theorem put_grown (w:World) (b i:Nat) (v:Value):w.grownBy ((w.setCell ⟨b,i,none⟩ v).drew) (some b) :=
 ⟨rfl,rfl,rfl,by simp [World.setCell,World.drew],fun k _ hne=>(Below.heap_setCell w ⟨b,i,none⟩ v k (fun e=>hne (by rw [e])))⟩
def AddE (q:Rw) (t:Nat) (b o:Nat) (ty:TypeId) (cs:Array Value) (w:World) (e:Ending) (w':World):Prop :=
 e = .returned (.tuple #[])∧Blk w' b ty ((cs.setIfInBounds o (.int .u64 ((orR q t).1:Int))).setIfInBounds (o+1) (.int .u64 ((orR q t).2:Int)))∧w.grownBy w' (some b)∧w'.heap.size=w.heap.size
theorem same_at (cs:Array Value) (i:Nat) (v:Value) (h:cs[i]?=some v):cs.setIfInBounds i v=cs:=by
 apply Array.ext_getElem?
 intro j
 rw [Array.getElem?_setIfInBounds]
 by_cases e:i=j
 ·subst e
  obtain ⟨hl,_⟩:=Array.getElem?_eq_some_iff.1 h
  rw [if_pos rfl,if_pos hl,h]
 ·rw [if_neg e]
theorem add_lo (q:Rw) (hq:RwOk q) (t:Nat) (ht:t<64) (b o:Nat) (ty:TypeId) (cs:Array Value) (w:World) (hk:Blk w b ty cs) (h0:cs[o]?=some (.int .u64 q.1)) (h1:cs[o+1]?=some (.int .u64 q.2)) :
  Calls Tryz.prog 153 #[.pointer (some ⟨b,o,none⟩),.int .i64 t] w (AddE q t b o ty cs w):=by
 have hd:((t:Int) / 64)=0:=by omega
 have hm:((t:Int) % 64)=t:=by omega
 have HO:=hid (or_bits hq.lo ht)
 have HK:=hid hk
 have HI:=hid (show (orR q t).1=q.1 ||| 2 ^ t∧(orR q t).2=q.2 by unfold orR;rw [if_pos ht];exact ⟨rfl,rfl⟩)
 have HS:=hid (fun v=>same_at (cs.setIfInBounds o v) (o+1) (.int .u64 q.2) (by rw [Array.getElem?_setIfInBounds,if_neg (by omega)];exact h1))
 obtain ⟨a,ha⟩:∃ a,q.1=a:=⟨_,rfl⟩
 rw [ha] at h0 HO HI
 have h0':=(hk.cell o).trans h0
 have f0:=hk.frozen o
 clear ha hq hk h0 h1 ht
 go_enter Tryz.func153,Tryz.ntmps153
 go_wp2
 go_region
 rw [HO.out]
 go_wp2
 go_end0
 refine ⟨rfl,?_,put_grown w b o _,by simp [World.setCell]⟩
 rw [HI.out.1,HI.out.2,HS.out]
 exact HK.out.set o _
theorem add_hi (q:Rw) (hq:RwOk q) (t:Nat) (h64:64≤t) (ht:t<128) (b o:Nat) (ty:TypeId) (cs:Array Value) (w:World) (hk:Blk w b ty cs) (h0:cs[o]?=some (.int .u64 q.1)) (h1:cs[o+1]?=some (.int .u64 q.2)) :
  Calls Tryz.prog 153 #[.pointer (some ⟨b,o,none⟩),.int .i64 t] w (AddE q t b o ty cs w):=by
 obtain ⟨u,hu⟩:∃ u,u=t-64:=⟨_,rfl⟩
 have hd:((t:Int) / 64)=1:=by omega
 have hm:((t:Int) % 64)=u:=by omega
 have HO:=hid (or_bits (s:=u) hq.hi (by omega))
 have HK:=hid hk
 have HI:=hid (show (orR q t).1=q.1∧(orR q t).2=q.2 ||| 2 ^ u by unfold orR;rw [if_neg (by omega),hu];exact ⟨rfl,rfl⟩)
 have HS:=hid (same_at cs o (.int .u64 q.1) h0)
 obtain ⟨a,ha⟩:∃ a,q.2=a:=⟨_,rfl⟩
 rw [ha] at h1 HO HI
 have h0':=(hk.cell (o+1)).trans h1
 have f0:=hk.frozen (o+1)
 clear ha hq hk h0 h1 ht hu h64
 go_enter Tryz.func153,Tryz.ntmps153
 go_wp2
 go_region
 rw [HO.out]
 go_wp2
 go_end0
 refine ⟨rfl,?_,put_grown w b (o+1) _,by simp [World.setCell]⟩
 rw [HI.out.1,HI.out.2,HS.out]
 exact HK.out.set (o+1) _
theorem add_set (q:Rw) (hq:RwOk q) (t:Nat) (ht:t<128) (b o:Nat) (ty:TypeId) (cs:Array Value) (w:World) (hk:Blk w b ty cs) (h0:cs[o]?=some (.int .u64 q.1)) (h1:cs[o+1]?=some (.int .u64 q.2)) :
  Calls Tryz.prog 153 #[.pointer (some ⟨b,o,none⟩),.int .i64 t] w (AddE q t b o ty cs w):=by
 by_cases h:t<64
 ·exact add_lo q hq t h b o ty cs w hk h0 h1
 ·exact add_hi q hq t (by omega) ht b o ty cs w hk h0 h1
theorem hasS_lo (a b:Nat) (ha:a<2 ^ 64) (t:Nat) (ht:t<64) (w:World) :
  Calls Tryz.prog 195 #[.agg #[.int .u64 a,.int .u64 b],.int .i64 t] w fun e w'=>e = .returned (.bool (a.testBit t))∧Below w.heap.size w w':=by
 have hd:((t:Int) / 64)=0:=by omega
 have hm:((t:Int) % 64)=t:=by omega
 have HA:=hid ha
 clear ha
 go_enter Tryz.func195,Tryz.ntmps195
 go_wp2
 go_ret
 exact ⟨ret_b (bit_and HA.out t),(Below.refl _ _).alloc (Nat.le_refl _) _⟩
theorem hasS_hi (a b:Nat) (hb:b<2 ^ 64) (t u:Nat) (h1:64≤t) (ht:t<128) (hu:u=t-64) (w:World) :
  Calls Tryz.prog 195 #[.agg #[.int .u64 a,.int .u64 b],.int .i64 t] w fun e w'=>e = .returned (.bool (b.testBit u))∧Below w.heap.size w w':=by
 have hd:((t:Int) / 64)=1:=by omega
 have hm:((t:Int) % 64)=u:=by omega
 have HA:=hid hb
 clear hb hu
 go_enter Tryz.func195,Tryz.ntmps195
 go_wp2
 go_ret
 exact ⟨ret_b (bit_and HA.out u),(Below.refl _ _).alloc (Nat.le_refl _) _⟩
theorem hasS_any (q:Rw) (hq:RwOk q) (t:Nat) (ht:t<128) (b:Bool) (hb:hole q t=b) (w:World) :
  Calls Tryz.prog 195 #[.agg #[.int .u64 q.1,.int .u64 q.2],.int .i64 t] w fun e w'=>e = .returned (.bool b)∧Below w.heap.size w w':=by
 rw [← hb]
 unfold hole
 by_cases h:t<64
 ·rw [if_pos h]
  exact hasS_lo q.1 q.2 hq.lo t h w
 ·rw [if_neg h]
  exact hasS_hi q.1 q.2 hq.hi t _ (by omega) ht rfl w
def Deb (w:World):Prop:=∀ j,j<64→w.cell? ⟨0,j,none⟩=some (.int .u8 (Lib.deBruijn64tab.getD j 0))
theorem Deb.below {w w':World} (h:Deb w) (hb:Below w.heap.size w w'):Deb w':=fun j hj=>(hb.cell (cell_size (h j hj))).trans (h j hj)
theorem tz64_at (x k idx:Nat) (w:World) (hx0:((x:Int)==0)=false)
  (key:IntKind.u64.wrap (bits BinOp.and IntKind.u64 (x:Int) (IntKind.u64.wrap (-(x:Int))) * 285870213051353865) / 288230376151711744=(idx:Int))
  (hi:idx<64) (hk:k<64) (hcell:w.cell? ⟨0,idx,none⟩=some (.int .u8 k)) :
  Calls Tryz.prog 182 #[.int .u64 x] w fun e w'=>e = .returned (.int .i64 k)∧w'=w:=by
 go_enter Tryz.func182,Tryz.ntmps182
 go_wp2_with (simp only [key])
 go_ret
 exact ⟨rfl,rfl⟩
theorem ctz_lt {x:Nat} (h0:x≠0) (h:x<2 ^ 64):Lib.ctz 64 x<64:=(Lib.lowest_bit 64 x h0 h).2
theorem tz64_pos (x:Nat) (hx0:x≠0) (hx:x<18446744073709551616) (w:World) (hT:Deb w):Calls Tryz.prog 182 #[.int .u64 x] w fun e w'=>e = .returned (.int .i64 (Lib.ctz 64 x))∧w'=w:=by
 obtain ⟨hlow,hk⟩:=Lib.lowest_bit 64 x hx0 hx
 obtain ⟨hi,htab⟩:=Lib.deBruijn64_at _ hk
 have hcell:=hT _ hi
 rw [htab] at hcell
 exact tz64_at x _ _ w (by simp;omega) (tz64_key x _ hx hx0 hlow) hi hk hcell
end Go.Proofs.YteflhbfgpknabaaGreatDoor
namespace Go.Proofs.YteflhbfgpknabaaGreatDoor
open Go.Lib (hid)
open Go.ChangeShapes Go.WideShapes Go.ChangeAt Go.ChangeMaps Go.RowKit
theorem own:ownKnob Tryz.prog.godebug=none:=by kernel_rfl
theorem lays:laidOutB Tryz.prog=true:=by kernel_rfl
theorem gPow:Tryz.prog.globalNamed "internal/strconv.uint64pow10"=some 1:=by kernel_rfl
theorem yPow:(Tryz.prog.globals[1]?).map (·.type)=some 269:=by kernel_rfl
theorem cPow:Tryz.prog.cellsOf 269=20:=by kernel_rfl
theorem cPow1:Tryz.prog.cellsOf 193=1:=by kernel_rfl
def listT:List (String × DataW Unit):=Rows.diagnosisHearsRow.laid
theorem tabsT {W:World} (h:laidMetH Tryz.prog listT W):Tabs W where
 pow:=by
  rw [MakeChecks.laidMetH_plain _ _ _ (by kernel_rfl)] at h
  exact Lib.tabIs_of_head gPow yPow Tryz.underlying269 Tryz.underlying193 cPow1 cPow (h.tail.tail)
theorem cO_u8D:Tryz.prog.cellsOf 5=1:=by kernel_rfl
theorem gDeb:Tryz.prog.globalNamed "math/bits.deBruijn64tab"=some 0:=by kernel_rfl
theorem yDeb:(Tryz.prog.globals[0]?).map (·.type)=some 249:=by kernel_rfl
theorem cDeb:Tryz.prog.cellsOf 249=64:=by kernel_rfl
def debZ:List Int:=[0,1,56,2,57,49,28,3,61,58,42,50,38,29,17,4,62,47,59,36,45,43,51,22,53,39,33,30,24,18,12,5,63,55,48,27,60,41,37,16,46,35,44,21,52,32,23,11,54,26,40,15,34,20,31,10,25,14,19,9,13,8,7,6]
theorem debT {W:World} (h:laidMetH Tryz.prog listT W):Deb W:=by
 rw [MakeChecks.laidMetH_plain _ _ _ (by kernel_rfl)] at h
 have ht:Lib.TabIs Tryz.prog W "math/bits.deBruijn64tab" .u8 debZ:=Lib.tabIs_of_head gDeb yDeb Tryz.underlying249 Tryz.underlying5 cO_u8D cDeb h.tail
 intro j hj
 have h1:=ht.cell gDeb j (by simpa [debZ] using hj)
 have h2:debZ.getD j 0=((Lib.deBruijn64tab.getD j 0:Nat):Int):=by
  have:∀ k,k<64→debZ.getD k 0=((Lib.deBruijn64tab.getD k 0:Nat):Int):=by decide +kernel
  exact this j hj
 rw [h2] at h1
 exact h1
noncomputable def laidWorld (os:Os):World:=World.doorLaid Tryz.prog 80 os
theorem metT (os:Os) (args:Array Value):laidMet Tryz.prog listT ((laidWorld os).forCall (fun _ _=>0) ⟨#[],args,[]⟩).memory :=
 laidMet_of_run' 8 (by kernel_rfl) (by kernel_rfl)
theorem hasO (os:Os) (args:Array Value):((laidWorld os).forCall (fun _ _=>0) ⟨#[],args,[]⟩).variablesRefB Tryz.prog=true:=by kernel_rfl
theorem restT (os:Os) (args:Array Value):((((laidWorld os).forCall (fun _ _=>0) ⟨#[],args,[]⟩).heap.toList.drop Tryz.prog.globals.size).take ((begin Tryz.prog (fun _ _=>0) default).world.heap.size-Tryz.prog.globals.size)) =
  (begin Tryz.prog (fun _ _=>0) default).world.heap.toList.drop Tryz.prog.globals.size:=by kernel_rfl
end Go.Proofs.YteflhbfgpknabaaGreatDoor
