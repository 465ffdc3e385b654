/-
  A part of the proof: Plain, Shelf, Tabs, Blk, Base, AN0, KF, AN2, W1, W10.
-/
import Derived.WalkKit
import Derived.WalkSpells
import Derived.Lib.Strings
import Derived.Shelf.Small.Bits
import Derived.Shelf.Small.Wraps
import Derived.Shelf.Strconv.Itoa0
import Derived.Shelf.Strconv.Itoa1
import Derived.Shelf.LaysM
import Derived.Shelf.Strconv.Itoa2
import Derived.Shelf.Strconv.Itoa3
import Derived.Shelf.Strconv.Itoa4
import Derived.Ground.Names2Prog
import Derived.Shelf.Slices.SearchI
import Derived.Ground.SlgnProg
import Derived.Shelf.SlicesG.SearchI
import Derived.Ground.SlgcProg
import Derived.Shelf.SlicesG.Cmp
import Derived.Test.YthhfmppealmblaaGreatDoorProg
import Derived.Test.YthhfmppealmblaaGreatDoorRows
import Derived.WalkLawsBesides
import Derived.Lib.Hide
import Derived.Lib.LaidTab
import Derived.Lib.ItoaLen
import Derived.WalkSmall
import Derived.RangeFuncBox
import Derived.RangeFuncWrites
import Derived.StillTailTactics
import Derived.OwnWalkIn
import Derived.RangeFuncCalls
import Derived.OrdersIn
import Derived.StillTail
import Derived.Below
import Derived.BigQuiet
import Derived.Deep.QuietTactic
import Derived.Deep.RegionHeld3
namespace Go.Proofs.YthhfmppealmblaaGreatDoor
open Go.RowKit
def digB (c : Int) : Bool:=decide (48 ≤ c) && decide (c ≤ 57)
def letB (c : Int) : Bool:=decide (97 ≤ c) && decide (c ≤ 122) || decide (65 ≤ c) && decide (c ≤ 90)
def wrdB (c : Int) : Bool:=letB c || digB c || decide (c = 95)
def L (s : ByteArray) : List UInt8:=s.data.toList
theorem L_length (s : ByteArray) : (L s).length = s.size:=by unfold L; rw [Array.length_toList]; rfl
theorem L_get (s : ByteArray) (k : Nat) (h : k < s.size) : (L s)[k]'(by rw [L_length]; exact h) = s[k]:=by
 rfl
theorem take_snoc (s : ByteArray) (k : Nat) (h : k < s.size) : (L s).take (k + 1) = (L s).take k ++ [s[k]]:=by
 rw [List.take_succ_eq_append_getElem (by rw [L_length]; exact h),L_get s k h]
theorem take_all (s : ByteArray) (k : Nat) (h : s.size ≤ k) : (L s).take k = L s:=List.take_of_length_le (by rw [L_length]; exact h)
theorem L_mk (l : List UInt8) : L ⟨l.toArray⟩ = l:=rfl
theorem mkL (l : List UInt8) : ∃ q : ByteArray,L q = l:=⟨⟨l.toArray⟩,rfl⟩
theorem eq_of_L {a b : ByteArray} (h : L a = L b) : a = b:=by
 obtain ⟨⟨x⟩⟩:=a; obtain ⟨⟨y⟩⟩:=b
 have h' : x = y:=h
 rw [h']
theorem mk_of_L {q : ByteArray} {l : List UInt8} (h : L q = l) : (⟨l.toArray⟩ : ByteArray) = q:=eq_of_L h.symm
theorem size_of_L {q : ByteArray} {l : List UInt8} (h : L q = l) : q.size = l.length:=by rw [← h,L_length]
theorem L_extract (s : ByteArray) (a b : Nat) : L (s.extract a b) = ((L s).drop a).take (b - a):=Lib.extract_data s a b
theorem L_append (a b : ByteArray) : L (a ++ b) = L a ++ L b:=by
 obtain ⟨⟨x⟩⟩:=a; obtain ⟨⟨y⟩⟩:=b
 rw [ByteArray.mk_append_mk]; rfl
theorem toList_nil (s : ByteArray) : s.toList = [] ↔ s.size = 0:=by
 rw [Lib.toList_data,← L_length]; exact List.length_eq_zero_iff.symm
theorem allTo_succ (s : ByteArray) (p : UInt8→Bool) (k : Nat) (h : k < s.size) : ((L s).take (k + 1)).all p = (((L s).take k).all p && p s[k]):=by
 rw [take_snoc s k h]; simp
theorem all_no (s : ByteArray) (p : UInt8→Bool) (k : Nat) (h : k < s.size) (hp : p s[k] = false) : (L s).all p = false:=by
 rw [Bool.eq_false_iff]
 intro ha
 rw [List.all_eq_true] at ha
 have:=ha s[k] (by rw [← L_get s k h]; exact List.getElem_mem _)
 simp [hp] at this
theorem byte_lt (c : UInt8) : (c.toNat : Int) < 256:=by have:=c.toNat_lt; omega
theorem ret_bool {a b : Bool} (h : a = b) : Ending.returned (.bool a) = .returned (.bool b):=by rw [h]
theorem ret_int {k : IntKind} {a b : Int} (h : a = b) : Ending.returned (.int k a) = .returned (.int k b):=by rw [h]
theorem ret_string {a b : ByteArray} (h : a = b) : Ending.returned (.string a) = .returned (.string b):=by rw [h]
theorem or32_fin : ∀ n : Fin 256,(decide (97 ≤ bits .or .u8 (n.val : Int) 32) && decide (bits .or .u8 (n.val : Int) 32 ≤ 122)) = letB (n.val : Int):=by decide +kernel
theorem or32 (c : Int) (h0 : 0 ≤ c) (h1 : c < 256) : (decide (97 ≤ bits .or .u8 c 32) && decide (bits .or .u8 c 32 ≤ 122)) = letB c:=by
 obtain ⟨n,rfl⟩:=Int.eq_ofNat_of_zero_le h0
 exact or32_fin ⟨n,by omega⟩
def prB (m : Int) (c : UInt8) : Bool:=decide (m ≤ (c.toNat : Int)) && decide ((c.toNat : Int) ≤ 126)
def printedB (m : Int) (l : List UInt8) : Bool:=l.all (prB m)
def textB (l : List UInt8) : Bool:=decide (l.length ≤ 200) && printedB 32 l
def wrdU (c : UInt8) : Bool:=wrdB (c.toNat : Int)
def nameB (l : List UInt8) : Bool:=decide (1 ≤ l.length) && decide (l.length ≤ 16) && letB ((l.headD 0).toNat : Int) && l.all wrdU
theorem head_eq (s : ByteArray) (h : 0 < s.size) : (L s).headD 0 = s[0]:=by
 have e:=L_get s 0 h
 have hl:=L_length s
 cases hL : L s with
 | nil => rw [hL] at hl; simp at hl; omega
 | cons a t => simp only [hL] at e; simpa using e
def nameTo (s : ByteArray) (k : Nat) : Prop:=((L s).take k).all wrdU = true∧(0 < k→letB ((L s).headD 0).toNat = true)
theorem nameTo_zero (s : ByteArray) : nameTo s 0:=⟨by simp,fun h => absurd h (Nat.lt_irrefl 0)⟩
theorem nameTo_succ {s : ByteArray} {k : Nat} (h : nameTo s k) (hk : k < s.size) (hw : wrdU s[k] = true) (h0 : k = 0→letB (s[k].toNat : Int) = true) : nameTo s (k + 1):=by
 refine ⟨by rw [allTo_succ s _ k hk,h.1,hw]; rfl,fun _ => ?_⟩
 by_cases e : k = 0
 ·subst e; rw [head_eq s hk]; exact h0 rfl
 ·exact h.2 (by omega)
theorem name_bad {s : ByteArray} {k : Nat} (hk : k < s.size) (hb : wrdU s[k] = false ∨ (k = 0∧letB (s[k].toNat : Int) = false)) : nameB (L s) = false:=by
 rcases hb with hb | ⟨rfl,hb⟩
 ·unfold nameB; rw [all_no s wrdU k hk hb]; simp
 ·unfold nameB; rw [head_eq s hk,hb]; simp
theorem name_end {s : ByteArray} {k : Nat} (h : nameTo s k) (hk : s.size ≤ k) : nameB (L s) = (decide (1 ≤ s.size) && decide (s.size ≤ 16)):=by
 have h1:=h.1
 rw [take_all s k hk] at h1
 unfold nameB
 rw [L_length,h1]
 by_cases e : 1 ≤ s.size
 ·rw [h.2 (by omega)]; simp
 ·simp [e]
theorem name_empty {s : ByteArray} (h : s.size < 1) : nameB (L s) = false:=by
 have : (L s).length = 0:=by rw [L_length]; omega
 simp [nameB,this]
theorem name_long {s : ByteArray} (h : 16 < s.size) : nameB (L s) = false:=by
 have : ¬ (L s).length ≤ 16:=by rw [L_length]; omega
 simp [nameB,this]
end Go.Proofs.YthhfmppealmblaaGreatDoor
namespace Go.Proofs
open Go.Shelf
def Tryz.laysM246_ren : Go.Shelf.Ren:=⟨fun | 246 => 187 | 283 => 193 | 284 => 194 | 285 => 195 | 286 => 196 | 129 => 128 | 317 => 197 | 318 => 198 | 319 => 199 | 320 => 200 | 337 => 201 | 338 => 202 | n => n,fun | 2 => 2 | 3 => 3 | 9 => 9 | 4 => 4 | 171 => 274 | 0 => 0 | 53 => 229 | 37 => 276 | 5 => 5 | 173 => 277 | 212 => 281 | 51 => 227 | 20 => 20 | 213 => 282 | 46 => 175 | 232 => 283 | 233 => 284 | n => n,fun | 17 => 0 | 18 => 1 | 19 => 2 | n => n⟩
def Tryz.laysM243_ren : Go.Shelf.Ren:=⟨fun | 243 => 192 | 246 => 187 | 283 => 193 | 284 => 194 | 285 => 195 | 286 => 196 | 129 => 128 | 317 => 197 | 318 => 198 | 319 => 199 | 320 => 200 | 337 => 201 | 338 => 202 | n => n,fun | 3 => 3 | 9 => 9 | 2 => 2 | 4 => 4 | 171 => 274 | 0 => 0 | 53 => 229 | 37 => 276 | 5 => 5 | 173 => 277 | 212 => 281 | 51 => 227 | 20 => 20 | 213 => 282 | 46 => 175 | 232 => 283 | 233 => 284 | n => n,fun | 17 => 0 | 18 => 1 | 19 => 2 | n => n⟩
def Tryz.laysM171_ren : Go.Shelf.Ren:=⟨fun | 171 => 186 | 243 => 192 | 246 => 187 | 283 => 193 | 284 => 194 | 285 => 195 | 286 => 196 | 129 => 128 | 317 => 197 | 318 => 198 | 319 => 199 | 320 => 200 | 337 => 201 | 338 => 202 | n => n,fun | 3 => 3 | 9 => 9 | 2 => 2 | 4 => 4 | 171 => 274 | 0 => 0 | 53 => 229 | 37 => 276 | 5 => 5 | 173 => 277 | 212 => 281 | 51 => 227 | 20 => 20 | 213 => 282 | 46 => 175 | 232 => 283 | 233 => 284 | n => n,fun | 17 => 0 | 18 => 1 | 19 => 2 | n => n⟩
theorem Tryz.laysM171 : Go.Proofs.LaysM.n171 Tryz.prog Tryz.laysM171_ren:={
 mixed:=by kernel_rfl
 f129:=Tryz.func128.trans (congrArg some (by kernel_rfl))
 f171:=Tryz.func186.trans (congrArg some (by kernel_rfl))
 f243:=Tryz.func192.trans (congrArg some (by kernel_rfl))
 f246:=Tryz.func187.trans (congrArg some (by kernel_rfl))
 f283:=Tryz.func193.trans (congrArg some (by kernel_rfl))
 f284:=Tryz.func194.trans (congrArg some (by kernel_rfl))
 f285:=Tryz.func195.trans (congrArg some (by kernel_rfl))
 f286:=Tryz.func196.trans (congrArg some (by kernel_rfl))
 f317:=Tryz.func197.trans (congrArg some (by kernel_rfl))
 f318:=Tryz.func198.trans (congrArg some (by kernel_rfl))
 f319:=Tryz.func199.trans (congrArg some (by kernel_rfl))
 f320:=Tryz.func200.trans (congrArg some (by kernel_rfl))
 f337:=Tryz.func201.trans (congrArg some (by kernel_rfl))
 f338:=Tryz.func202.trans (congrArg some (by kernel_rfl))
 t0:=Tryz.underlying0
 a0:=Tryz.isAgg0
 z0:=Tryz.sizeOf0
 v0:=Tryz.zeroValue0
 t2:=Tryz.underlying2
 a2:=Tryz.isAgg2
 z2:=Tryz.sizeOf2
 v2:=Tryz.zeroValue2
 t3:=Tryz.underlying3
 a3:=Tryz.isAgg3
 z3:=Tryz.sizeOf3
 v3:=Tryz.zeroValue3
 t4:=Tryz.underlying4
 a4:=Tryz.isAgg4
 z4:=Tryz.sizeOf4
 v4:=Tryz.zeroValue4
 t5:=Tryz.underlying5
 a5:=Tryz.isAgg5
 z5:=Tryz.sizeOf5
 v5:=Tryz.zeroValue5
 t9:=Tryz.underlying9
 a9:=Tryz.isAgg9
 z9:=Tryz.sizeOf9
 v9:=Tryz.zeroValue9
 t20:=Tryz.underlying20
 a20:=Tryz.isAgg20
 z20:=Tryz.sizeOf20
 v20:=Tryz.zeroValue20
 t37:=Tryz.underlying276
 a37:=Tryz.isAgg276
 z37:=Tryz.sizeOf276
 v37:=Tryz.zeroValue276
 t46:=Tryz.underlying175
 a46:=Tryz.isAgg175
 z46:=Tryz.sizeOf175
 v46:=Tryz.zeroValue175
 t51:=Tryz.underlying227
 a51:=Tryz.isAgg227
 z51:=Tryz.sizeOf227
 v51:=Tryz.zeroValue227
 t53:=Tryz.underlying229
 a53:=Tryz.isAgg229
 z53:=Tryz.sizeOf229
 v53:=Tryz.zeroValue229
 t171:=Tryz.underlying274
 a171:=Tryz.isAgg274
 z171:=Tryz.sizeOf274
 v171:=Tryz.zeroValue274
 t173:=Tryz.underlying277
 a173:=Tryz.isAgg277
 z173:=Tryz.sizeOf277
 v173:=Tryz.zeroValue277
 t212:=Tryz.underlying281
 a212:=Tryz.isAgg281
 z212:=Tryz.sizeOf281
 v212:=Tryz.zeroValue281
 t213:=Tryz.underlying282
 a213:=Tryz.isAgg282
 z213:=Tryz.sizeOf282
 t232:=Tryz.underlying283
 a232:=Tryz.isAgg283
 z232:=Tryz.sizeOf283
 v232:=Tryz.zeroValue283
 t233:=Tryz.underlying284
 a233:=Tryz.isAgg284
 z233:=Tryz.sizeOf284
 v233:=Tryz.zeroValue284
 g17:=by kernel_rfl
 g18:=by kernel_rfl
 g19:=by kernel_rfl
 i0:=by kernel_rfl
 i2:=by kernel_rfl
 i3:=by kernel_rfl
 i4:=by kernel_rfl
 i5:=by kernel_rfl
 i9:=by kernel_rfl
 i20:=by kernel_rfl
 i37:=by kernel_rfl
 i46:=by kernel_rfl
 i51:=by kernel_rfl
 i53:=by kernel_rfl
 i171:=by kernel_rfl
 i173:=by kernel_rfl
 i212:=by kernel_rfl
 i232:=by kernel_rfl
 i233:=by kernel_rfl
 m17:=by kernel_rfl
 m18:=by kernel_rfl
 m19:=by kernel_rfl }
open Go.RowKit Go.Sort Go.Lib in
theorem Tryz.strconv_Itoa (n : Int) (h0 : -9223372036854775808 ≤ n) (h1 : n ≤ 9223372036854775807) (w : World) (htab : Lib.TabIs Tryz.prog w "internal/strconv.uint64pow10" .u64 Lib.pow10Tab) :
  Calls Tryz.prog 186 #[.int .i64 n] w fun e w' => e = .returned (.string ⟨(Lib.itoa n).toArray⟩)∧∃ k os,w' = grow (w.drewN k) os:=Any.strconv_Itoa Tryz.laysM171 n h0 h1 w htab
def Tryz.laysM173_ren : Go.Shelf.Ren:=⟨fun | 173 => 174 | 246 => 187 | 283 => 193 | 284 => 194 | 285 => 195 | 286 => 196 | 129 => 128 | 317 => 197 | 318 => 198 | 319 => 199 | 320 => 200 | 337 => 201 | 338 => 202 | n => n,fun | 2 => 2 | 3 => 3 | 9 => 9 | 4 => 4 | 171 => 274 | 0 => 0 | 53 => 229 | 37 => 276 | 5 => 5 | 173 => 277 | 212 => 281 | 51 => 227 | 20 => 20 | 213 => 282 | 46 => 175 | 232 => 283 | 233 => 284 | n => n,fun | 17 => 0 | 18 => 1 | 19 => 2 | n => n⟩
theorem Tryz.laysM173 : Go.Proofs.LaysM.n173 Tryz.prog Tryz.laysM173_ren:={
 mixed:=by kernel_rfl
 f129:=Tryz.func128.trans (congrArg some (by kernel_rfl))
 f173:=Tryz.func174.trans (congrArg some (by kernel_rfl))
 f246:=Tryz.func187.trans (congrArg some (by kernel_rfl))
 f283:=Tryz.func193.trans (congrArg some (by kernel_rfl))
 f284:=Tryz.func194.trans (congrArg some (by kernel_rfl))
 f285:=Tryz.func195.trans (congrArg some (by kernel_rfl))
 f286:=Tryz.func196.trans (congrArg some (by kernel_rfl))
 f317:=Tryz.func197.trans (congrArg some (by kernel_rfl))
 f318:=Tryz.func198.trans (congrArg some (by kernel_rfl))
 f319:=Tryz.func199.trans (congrArg some (by kernel_rfl))
 f320:=Tryz.func200.trans (congrArg some (by kernel_rfl))
 f337:=Tryz.func201.trans (congrArg some (by kernel_rfl))
 f338:=Tryz.func202.trans (congrArg some (by kernel_rfl))
 t0:=Tryz.underlying0
 a0:=Tryz.isAgg0
 z0:=Tryz.sizeOf0
 v0:=Tryz.zeroValue0
 t2:=Tryz.underlying2
 a2:=Tryz.isAgg2
 z2:=Tryz.sizeOf2
 v2:=Tryz.zeroValue2
 t3:=Tryz.underlying3
 a3:=Tryz.isAgg3
 z3:=Tryz.sizeOf3
 v3:=Tryz.zeroValue3
 t4:=Tryz.underlying4
 a4:=Tryz.isAgg4
 z4:=Tryz.sizeOf4
 v4:=Tryz.zeroValue4
 t5:=Tryz.underlying5
 a5:=Tryz.isAgg5
 z5:=Tryz.sizeOf5
 v5:=Tryz.zeroValue5
 t9:=Tryz.underlying9
 a9:=Tryz.isAgg9
 z9:=Tryz.sizeOf9
 v9:=Tryz.zeroValue9
 t20:=Tryz.underlying20
 a20:=Tryz.isAgg20
 z20:=Tryz.sizeOf20
 v20:=Tryz.zeroValue20
 t37:=Tryz.underlying276
 a37:=Tryz.isAgg276
 z37:=Tryz.sizeOf276
 v37:=Tryz.zeroValue276
 t46:=Tryz.underlying175
 a46:=Tryz.isAgg175
 z46:=Tryz.sizeOf175
 v46:=Tryz.zeroValue175
 t51:=Tryz.underlying227
 a51:=Tryz.isAgg227
 z51:=Tryz.sizeOf227
 v51:=Tryz.zeroValue227
 t53:=Tryz.underlying229
 a53:=Tryz.isAgg229
 z53:=Tryz.sizeOf229
 v53:=Tryz.zeroValue229
 t171:=Tryz.underlying274
 a171:=Tryz.isAgg274
 z171:=Tryz.sizeOf274
 v171:=Tryz.zeroValue274
 t173:=Tryz.underlying277
 a173:=Tryz.isAgg277
 z173:=Tryz.sizeOf277
 v173:=Tryz.zeroValue277
 t212:=Tryz.underlying281
 a212:=Tryz.isAgg281
 z212:=Tryz.sizeOf281
 v212:=Tryz.zeroValue281
 t213:=Tryz.underlying282
 a213:=Tryz.isAgg282
 z213:=Tryz.sizeOf282
 t232:=Tryz.underlying283
 a232:=Tryz.isAgg283
 z232:=Tryz.sizeOf283
 v232:=Tryz.zeroValue283
 t233:=Tryz.underlying284
 a233:=Tryz.isAgg284
 z233:=Tryz.sizeOf284
 v233:=Tryz.zeroValue284
 g17:=by kernel_rfl
 g18:=by kernel_rfl
 g19:=by kernel_rfl
 i0:=by kernel_rfl
 i2:=by kernel_rfl
 i3:=by kernel_rfl
 i4:=by kernel_rfl
 i5:=by kernel_rfl
 i9:=by kernel_rfl
 i20:=by kernel_rfl
 i37:=by kernel_rfl
 i46:=by kernel_rfl
 i51:=by kernel_rfl
 i53:=by kernel_rfl
 i171:=by kernel_rfl
 i173:=by kernel_rfl
 i212:=by kernel_rfl
 i232:=by kernel_rfl
 i233:=by kernel_rfl
 m17:=by kernel_rfl
 m18:=by kernel_rfl
 m19:=by kernel_rfl }
open Go.RowKit Go.Sort Go.Lib in
theorem Tryz.strconv_FormatInt_10 (n : Int) (h0 : -9223372036854775808 ≤ n) (h1 : n ≤ 9223372036854775807) (w : World) (htab : Lib.TabIs Tryz.prog w "internal/strconv.uint64pow10" .u64 Lib.pow10Tab) :
  Calls Tryz.prog 174 #[.int .i64 n,.int .i64 10] w fun e w' => e = .returned (.string ⟨(Lib.itoa n).toArray⟩)∧∃ k os,w' = grow (w.drewN k) os:=Any.strconv_FormatInt_10 Tryz.laysM173 n h0 h1 w htab
end Go.Proofs
namespace Go.Proofs.YthhfmppealmblaaGreatDoor
open Go.RowKit
def nmL : Nat→List UInt8
 | 0 => [99] | 1 => [99,35] | 2 => [100] | 3 => [100,35] | 4 => [101] | 5 => [102] | 6 => [102,35] | 7 => [103] | 8 => [103,35] | 9 => [97] | 10 => [97,35] | 11 => [98] | _ => []
def nm (i : Nat) : ByteArray:=⟨(nmL i).toArray⟩
def st (i : Nat) : Int:=[9,11,0,2,4,5,7].getD i 0
theorem nm_le (i : Nat) : (nm i).size ≤ 2:=by
 show (nmL i).length ≤ 2
 unfold nmL
 split <;> decide
theorem itoa_le (n : Int) (h0 : -9223372036854775808 ≤ n) (h1 : n ≤ 9223372036854775807) : (Lib.itoa n).length ≤ 21:=Lib.itoa_length_le n h0 h1
theorem st_le (i : Nat) : 0 ≤ st i∧st i ≤ 11:=by
 rcases Nat.lt_or_ge i 7 with h | h
 ·exact (show ∀ j : Fin 7,0 ≤ st j.val∧st j.val ≤ 11 by decide) ⟨i,h⟩
 ·unfold st
  rw [List.getD_eq_getElem?_getD,List.getElem?_eq_none (by simpa using h)]
  decide
structure Tabs (w : World) : Prop where
 pow : Lib.TabIs Tryz.prog w "internal/strconv.uint64pow10" .u64 Lib.pow10Tab
theorem cell_size {w : World} {p : Addr} {v : Value} (h : w.cell? p = some v) : p.block < w.heap.size:=by
 unfold World.cell? at h
 split at h
 ·next e => exact (Array.getElem?_eq_some_iff.1 e).1
 ·cases h
theorem tab_below {P : Program} {w w' : World} {name : String} {k : IntKind} {zs : List Int} (h : Lib.TabIs P w name k zs) (hb : Below w.heap.size w w') : Lib.TabIs P w' name k zs:=by
 unfold Lib.TabIs World.var? at *
 cases hg : P.globalNamed name with
 | none => simp [hg] at h
 | some g =>
  simp only [hg,Option.bind_some] at h ⊢
  have hlt : g < w.heap.size:=by
   rcases Nat.lt_or_ge g w.heap.size with h' | h'
   ·exact h'
   ·rw [Array.getElem?_eq_none h'] at h; simp at h
  rw [hb.block g hlt]
  exact h
theorem Tabs.below {w w' : World} (t : Tabs w) (h : Below w.heap.size w w') : Tabs w' where
 pow:=tab_below t.pow h
theorem tab_grown {P : Program} {w w' : World} {name : String} {k : IntKind} {zs : List Int} {r : Nat} (h : Lib.TabIs P w name k zs) (hg : w.grownBy w' (some r)) (hr : ∀ g,P.globalNamed name = some g→g ≠ r) : Lib.TabIs P w' name k zs:=by
 unfold Lib.TabIs World.var? at *
 cases hn : P.globalNamed name with
 | none => simp [hn] at h
 | some g =>
  simp only [hn,Option.bind_some] at h ⊢
  have hlt : g < w.heap.size:=by
   rcases Nat.lt_or_ge g w.heap.size with h' | h'
   ·exact h'
   ·rw [Array.getElem?_eq_none h'] at h; simp at h
  rw [hg.block g hlt (fun e => hr g hn (Option.some.inj e))]
  exact h
structure TabLt (r : Nat) : Prop where
 pow : 0 < r
theorem pow_named : Tryz.prog.globalNamed "internal/strconv.uint64pow10" = some 0:=by kernel_rfl
theorem Tabs.lt {w : World} {r : Nat} (t : Tabs w) (h : w.heap.size ≤ r) : TabLt r where
 pow:=by
  have h1:=t.pow
  unfold Lib.TabIs World.var? at h1
  simp only [pow_named,Option.bind_some] at h1
  rcases Nat.lt_or_ge 0 w.heap.size with h' | h'
  ·omega
  ·rw [Array.getElem?_eq_none h'] at h1; simp at h1
theorem cell_grown {w w' : World} {r : Nat} {p : Addr} {v : Value} (hc : w.cell? p = some v) (hg : w.grownBy w' (some r)) (hne : p.block ≠ r) : w'.cell? p = some v:=by
 have hb:=hg.block p.block (cell_size hc) (fun e => hne (Option.some.inj e))
 unfold World.cell? at *
 rw [hb]
 exact hc
theorem Tabs.grown {w w' : World} {r : Nat} (t : Tabs w) (hr : TabLt r) (hg : w.grownBy w' (some r)) : Tabs w' where
 pow:=tab_grown t.pow hg (fun g hn => by rw [pow_named] at hn; have:=Option.some.inj hn; have:=hr.pow; omega)
theorem below_grow {B : Nat} {a w : World} (h : Below B a w) (hB : B ≤ w.heap.size) (k : Nat) (os : Array Obj) : Below B a (Sort.grow (w.drewN k) os) :=
 h.trans ⟨rfl,rfl,rfl,by simp [Sort.grow,World.drewN],fun i hi => by
  show (w.heap ++ os)[i]? = w.heap[i]?
  rw [Array.getElem?_append_left (by omega)]⟩
theorem below_drewN {B : Nat} {a w : World} (h : Below B a w) (n : Nat) : Below B a (w.drewN n):=⟨h.os,h.tape,h.output,h.size,h.block⟩
theorem itoa_any (n : Int) (w : World) (h1 : -9223372036854775808 ≤ n) (h2 : n ≤ 9223372036854775807) (t : Tabs w) :
  Calls Tryz.prog 186 #[.int .i64 n] w fun e w' => e = .returned (.string ⟨(Lib.itoa n).toArray⟩)∧Below w.heap.size w w' :=
 (Tryz.strconv_Itoa n h1 h2 w t.pow).mono fun _ _ ⟨he,k,os,hw⟩ => ⟨he,by rw [hw]; exact below_grow (Below.refl _ _) (Nat.le_refl _) k os⟩
theorem formatInt_any (n : Int) (w : World) (h1 : -9223372036854775808 ≤ n) (h2 : n ≤ 9223372036854775807) (t : Tabs w) :
  Calls Tryz.prog 174 #[.int .i64 n,.int .i64 10] w fun e w' => e = .returned (.string ⟨(Lib.itoa n).toArray⟩)∧Below w.heap.size w w' :=
 (Tryz.strconv_FormatInt_10 n h1 h2 w t.pow).mono fun _ _ ⟨he,k,os,hw⟩ => ⟨he,by rw [hw]; exact below_grow (Below.refl _ _) (Nat.le_refl _) k os⟩
end Go.Proofs.YthhfmppealmblaaGreatDoor
namespace Go.Proofs.YthhfmppealmblaaGreatDoor
open Go.RowKit
def Blk (W : World) (B : Nat) (t : TypeId) (cs : Array Value) : Prop:=W.heap[B]? = some (.cells cs t (0,0))
theorem Blk.lt {W : World} {B : Nat} {t : TypeId} {cs : Array Value} (h : Blk W B t cs) : B < W.heap.size:=(Array.getElem?_eq_some_iff.1 h).1
theorem Blk.cell {W : World} {B : Nat} {t : TypeId} {cs : Array Value} (h : Blk W B t cs) (i : Nat) : W.cell? ⟨B,i,none⟩ = cs[i]?:=by
 simp [World.cell?,show W.heap[B]? = _ from h]
theorem Blk.frozen {W : World} {B : Nat} {t : TypeId} {cs : Array Value} (h : Blk W B t cs) (i : Nat) : W.frozen? ⟨B,i,none⟩ = false:=by
 simp [World.frozen?,show W.heap[B]? = _ from h]
theorem Blk.new (W : World) (t : TypeId) (cs : Array Value) : Blk (W.alloc (.cells cs t)) W.heap.size t cs:=World.alloc_heap_new W _
theorem Blk.alloc {W : World} {B : Nat} {t : TypeId} {cs : Array Value} (h : Blk W B t cs) (o : Obj) : Blk (W.alloc o) B t cs:=(Below.heap_alloc W o B h.lt).trans h
theorem Blk.below {W W' : World} {B : Nat} {t : TypeId} {cs : Array Value} (h : Blk W B t cs) (hb : Below W.heap.size W W') : Blk W' B t cs:=(hb.block B h.lt).trans h
theorem Blk.other {W : World} {B : Nat} {t : TypeId} {cs : Array Value} (h : Blk W B t cs) (a : Addr) (v : Value) (hne : B ≠ a.block) : Blk (W.setCell a v) B t cs:=(Below.heap_setCell W a v B hne).trans h
theorem Blk.set {W : World} {B : Nat} {t : TypeId} {cs : Array Value} (h : Blk W B t cs) (i : Nat) (v : Value) : Blk (W.setCell ⟨B,i,none⟩ v) B t (cs.setIfInBounds i v):=by
 have h' : W.heap[B]'h.lt = .cells cs t (0,0):=(Array.getElem?_eq_some_iff.1 h).2
 show (W.heap.modify B _)[B]? = _
 rw [Array.getElem?_eq_getElem (by simpa using h.lt),Array.getElem_modify_self,h']
 rfl
theorem Blk.drewN {W : World} {B : Nat} {t : TypeId} {cs : Array Value} (h : Blk W B t cs) (n : Nat) : Blk (W.drewN n) B t cs:=h
theorem Blk.two {W : World} {B : Nat} {t : TypeId} {a b : Value} (h : Blk W B t #[a,b]) : W.cell? ⟨B,0,none⟩ = some a∧W.cell? ⟨B,1,none⟩ = some b∧W.frozen? ⟨B,0,none⟩ = false∧W.frozen? ⟨B,1,none⟩ = false :=
 ⟨h.cell 0,h.cell 1,h.frozen 0,h.frozen 1⟩
end Go.Proofs.YthhfmppealmblaaGreatDoor
namespace Go.Proofs.YthhfmppealmblaaGreatDoor
open Go.RowKit
theorem ret_tup {a b : Value} {x y : ByteArray} (h : x = y) (h2 : a = b) : Ending.returned (.tuple #[.string x,a]) = .returned (.tuple #[.string y,b]):=by rw [h,h2]
theorem below_step {w a b : World} (h : Below w.heap.size w a) (hb : Below a.heap.size a b) : Below w.heap.size w b:=h.trans (hb.mono h.size)
end Go.Proofs.YthhfmppealmblaaGreatDoor
namespace Go.Proofs.YthhfmppealmblaaGreatDoor
open Go.RowKit
section
variable {F : Fence} {n : Nat} {P : Program}
def ctlB : Obj→Bool
 | .deferred _ => true
 | .loop _ => true
 | _ => false
theorem ctlB_no {o : Obj} (h : ctlB o = true) : o.isCells = false:=by cases o <;> first | rfl | cases h
def Turn (T : TypeId) (B : Nat) (A : World) (row : Option Nat) : Prop:=∀ r,row = some r→B ≤ r∧∃ o : Obj,A.heap[r]? = some o∧(ctlB o = true ∨ ∃ cs fr,o = .cells cs T fr)
def TurnC (T : TypeId) (B : Nat) (A : World) (row : Option Nat) : Prop:=∀ r,row = some r→B ≤ r∧∃ cs fr,A.heap[r]? = some (.cells cs T fr)
theorem TurnC.turn {T : TypeId} {B B' : Nat} {A : World} {row : Option Nat} (h : TurnC T B A row) (hb : B' ≤ B) : Turn T B' A row:=fun r e => by
 obtain ⟨h1,cs,fr,h2⟩:=h r e
 exact ⟨Nat.le_trans hb h1,_,h2,.inr ⟨cs,fr,rfl⟩⟩
def LastsT {β : Type} (T : TypeId) (B : Nat) (J : β→World→Prop) : Prop:=∀ s A A' row,J s A→A.grownBy A' row→Turn T B A row→J s A'
def LastsC {β : Type} (T : TypeId) (B : Nat) (J : β→World→Prop) : Prop:=∀ s A A' row,J s A→A.grownBy A' row→TurnC T B A row→J s A'
theorem LastsT.put {β : Type} {T : TypeId} {B : Nat} {J : β→World→Prop} (h : LastsT T B J) {s : β} {A : World} {l : Nat} {o : Obj} (o' : Obj) (hs : J s A) (hB : B ≤ l) (hl : A.heap[l]? = some o) (ho : ctlB o = true) : J s (A.putObj l o') :=
 h s A _ (some l) hs (grownBy_putObj' A l o') (fun r e => by cases e; exact ⟨hB,o,hl,.inl ho⟩)
theorem LastsT.new {β : Type} {T : TypeId} {B : Nat} {J : β→World→Prop} (h : LastsT T B J) {s : β} {A : World} (o : Obj) (hs : J s A) : J s (A.alloc o):=h s A _ none hs (World.grownBy_alloc A o none) (fun r e => by cases e)
theorem turnC_keeps {T : TypeId} {B : Nat} {A A' : World} {row : Option Nat} (hg : A.grownBy A' row) (ht : TurnC T B A row) {k : Nat} {o : Obj} (hk : A.heap[k]? = some o) (ho : o.isCells = false) : A'.heap[k]? = some o :=
 (hg.block k (Array.getElem?_eq_some_iff.1 hk).1 (fun e => by
  obtain ⟨_,cs,fr,h⟩:=ht k e.symm
  rw [hk] at h
  cases h
  cases ho)).trans hk
def SeqT {α : Type} (F : Fence) (n : Nat) (P : Program) (g : Nat) (lb : Array Value) (encs : α→Array Value) (Kp : World→World→Prop) (Px : List α→α→World→Prop) (T : TypeId) (S : List α→Prop) (w : World) : Prop :=
 ∀ (l : Nat) (J : List α→World→Prop) (W : World),Below w.heap.size w W→LastsC T W.heap.size J →
  (∀ pre x W1,J pre W1→Px pre x W1→YieldAt F (n - 1) P l (encs x) W1 fun e W' => e = .returned (.bool true)∧J (pre ++ [x]) W'∧Kp W1 W') →
  J [] W→CallsIn F n P g (#[.func (.yield l) #[] #[]] ++ lb) W fun e W' => (∃ v,e = .returned v)∧∃ xs,S xs∧J xs W'
def rndT {α : Type} (B : Nat) (Kp : World→World→Prop) (I : List α→World→Prop) (xs : List α) (W : World) : Exit→Act→World→Prop
 | .normal,_,W' => KeepsFrom B W W'∧Kp W W'∧I xs W'
 | _,_,_ => False
theorem wpIn_range_T {α : Type} {g : Operand} {ps : Array Tmp} {assign body : Code} {Q : Exit→Act→World→Prop} {a : Act} {w : World}
  (hro : F.round = none) (h1 : 1 ≤ n) {gf : Nat} {lb : Array Value} (hg : a.eval g = .func (.func gf) #[] lb) (hFg : F.fn gf) (eg : ∀ args w,(callFunc gf args).run P w = .ok (.enter gf args) w)
  {encs : α→Array Value} {Kp : World→World→Prop} {Px : List α→α→World→Prop} {T : TypeId} {S : List α→Prop} (hseq : SeqT F (n - 1) P gf lb encs Kp Px T S w)
  (hKt : ∀ {A B C : World},Kp A B→Kp B C→Kp A C) (hKb : ∀ (W : World) (l : Nat) (o o' : Obj),w.heap.size ≤ l→W.heap[l]? = some o→ctlB o = true→Kp W (W.putObj l o')) (hps : ∀ x,(encs x).size = ps.size)
  (I : List α→World→Prop) (hI : LastsT T w.heap.size I) (h0 : I [] w) (Ax : List α→α→Act→World→Prop)
  (hAx : ∀ pre x a' (W : World) (l : Nat) (o o' : Obj),w.heap.size ≤ l→W.heap[l]? = some o→ctlB o = true→Ax pre x a' W→Ax pre x a' (W.putObj l o'))
  (hassign : ∀ (l : Nat) (pre : List α) (x : α) (W : World) (K : Act→World→Prop),I pre W→Px pre x W→(∀ a' W',KeepsFrom w.heap.size W W'→Kp W W'→I pre W'→Ax pre x a' W'→K a' W') →
   assign.wpIn (F.inRound l) (n - 1 - 1) P (Exit.then K (fun _ _ _ => False)) { tmps:=(ps.zip (encs x)).foldl (fun t (p,v) => t.setIfInBounds p v) a.tmps,defers:=[] } W)
  (hbody : ∀ (l : Nat) (pre : List α) (x : α) (a' : Act) (W : World),I pre W→Ax pre x a' W→body.wpIn (F.inRound l) (n - 1 - 1) P (rndT w.heap.size Kp I (pre ++ [x]) W) a' W)
  (hdone : ∀ (D : Nat) (xs : List α) (W : World),w.heap.size ≤ D→S xs→I xs W→W.heap[D]? = some (.deferred (some []))→Q .normal { a with defers:={ target:=.collected D,args:=#[] } :: a.defers } W) :
  (Code.rangeFunc g ps assign body).wpIn F n P Q a w:=by
 refine wpIn_rangeFunc ?_
 intro fn hfn
 rw [hro]
 obtain ⟨rc,hrc⟩ : ∃ rc : LoopState→Loop,rc = fun st => { state:=st,pending:=none,fn,tmps:=a.tmps,params:=ps,assign,body,defers:=w.heap.size }:=⟨_,rfl⟩
 have hsz1 : ((w.alloc (.deferred (some []))).alloc (.loop (rc .ready))).heap.size = w.heap.size + 1 + 1:=by rw [World.size_alloc,World.size_alloc]
 have hL : ((w.alloc (.deferred (some []))).alloc (.loop (rc .ready))).heap[w.heap.size + 1]? = some (.loop (rc .ready)):=by
  have h:=World.alloc_heap_new (w.alloc (.deferred (some []))) (.loop (rc .ready))
  rwa [World.size_alloc] at h
 have hD : ((w.alloc (.deferred (some []))).alloc (.loop (rc .ready))).heap[w.heap.size]? = some (.deferred (some [])):=(Below.heap_alloc _ _ _ (by simp)).trans (World.alloc_heap_new w _)
 have hE:=run_enterLoop_outer (P:=P) (w:=w) fn a.tmps ps assign body
 have hb1 : Below w.heap.size w ((w.alloc (.deferred (some []))).alloc (.loop (rc .ready))):=((Below.refl _ w).alloc (Nat.le_refl _) _).alloc (by simp) _
 have hI1 : I [] ((w.alloc (.deferred (some []))).alloc (.loop (rc .ready))):=hI.new _ (hI.new _ h0)
 have hE2 : (Instr.enterLoop fn a.tmps ps assign body none).run P w = .ok (w.heap.size + 1,[{ target:=.collected w.heap.size,args:=#[] }]) ((w.alloc (.deferred (some []))).alloc (.loop (rc .ready))):=by rw [hrc]; exact hE
 clear hE
 generalize (w.alloc (.deferred (some []))).alloc (.loop (rc .ready)) = W1 at *
 refine ⟨w.heap.size + 1,[{ target:=.collected w.heap.size,args:=#[] }],W1,{ target:=.fn (.func gf) lb,args:=#[.func (.yield (w.heap.size + 1)) #[] #[]] },W1,gf,
  #[.func (.yield (w.heap.size + 1)) #[] #[]] ++ lb,W1,hE2,?_,?_,?_,fun _ => h1,?_⟩
 ·simp only [resolve,hg]
  simp [go_sem]
 ·intro f' hf'
  simp [Target.leads] at hf'
  subst hf'
  exact hFg
 ·simp [invoke,go_sem,eg]
 refine (hseq (w.heap.size + 1) (fun pre W => I pre W∧W.heap[w.heap.size + 1]? = some (.loop (rc .ready))∧W.heap[w.heap.size]? = some (.deferred (some []))) W1 hb1 ?lasts ?round ⟨hI1,hL,hD⟩).mono ?last
 case lasts =>
  intro s A A' row hs hgr ht
  exact ⟨hI s A A' row hs.1 hgr (ht.turn (by omega)),turnC_keeps hgr ht hs.2.1 rfl,turnC_keeps hgr ht hs.2.2 rfl⟩
 case last =>
  rintro e W2 ⟨⟨v,rfl⟩,xs,hS,hi,hl,hd⟩
  have hend:=run_endLoop (P:=P) hl (by rw [hrc]; simp)
  refine ⟨none,_,by rw [hrc] at hend; exact hend,hdone _ xs _ (Nat.le_refl _) hS (hI.put _ hi (by omega) hl rfl) ((World.putObj_heap_other (by omega)).trans hd)⟩
 case round =>
  rintro pre x W ⟨hi,hl,hd⟩ hpx
  have hy:=run_yield (P:=P) (args:=encs x) hl (by rw [hrc]; exact hps x)
  rw [hrc] at hy
  refine ⟨fn,_,assign,body,hy,roundIn_of_wpIn hfn (hassign _ pre x W _ hi hpx ?_)⟩
  clear hy
  intro a' W' hkf hkp hi' hax
  have hl':=hkf.same _ _ (by omega) hl rfl
  have hd':=hkf.same _ _ (Nat.le_refl _) hd rfl
  have hlt : w.heap.size + 1 < W'.heap.size:=(Array.getElem?_eq_some_iff.1 hl').1
  refine ⟨_,run_beginRound hl' (by rw [hrc]),?_⟩
  have hl2 : (W'.putObj (w.heap.size + 1) (.loop { rc .ready with state:=.busy })).heap[w.heap.size + 1]? = some (.loop { rc .ready with state:=.busy }):=World.putObj_heap_same hlt
  have hd2 : (W'.putObj (w.heap.size + 1) (.loop { rc .ready with state:=.busy })).heap[w.heap.size]? = some (.deferred (some [])):=(World.putObj_heap_other (by omega)).trans hd'
  have hw2 : Kp W' (W'.putObj (w.heap.size + 1) (.loop { rc .ready with state:=.busy })):=hKb _ _ _ _ (by omega) hl' rfl
  refine wpIn_mono (hbody _ pre x a' _ (hI.put _ hi' (by omega) hl' rfl) (hAx _ _ _ _ _ _ _ (by omega) hl' rfl hax)) ?_
  rintro e a3 W3 hp
  cases e with
  | normal =>
   obtain ⟨hk3,hp3,hi3⟩:=hp
   have hl3:=hk3.same _ _ (by omega) hl2 rfl
   have hd3:=hk3.same _ _ (Nat.le_refl _) hd2 rfl
   have hr:=run_endRound (P:=P) none hl3
   refine ⟨_,_,hr,rfl,⟨hI.put _ hi3 (by omega) hl3 rfl,?_,(World.putObj_heap_other (by omega)).trans hd3⟩,hKt hkp (hKt (hKt hw2 hp3) (hKb _ _ _ _ (by omega) hl3 rfl))⟩
   rw [World.putObj_heap_same (Array.getElem?_eq_some_iff.1 hl3).1,hrc]
   rfl
  | _ => exact hp.elim
end
end Go.Proofs.YthhfmppealmblaaGreatDoor
namespace Go.Proofs.YthhfmppealmblaaGreatDoor
open Go.RowKit
theorem wpIn_normal {F : Fence} {n : Nat} {P : Program} {c : Code} {Q : Exit→Act→World→Prop} {a : Act} {w : World} (h : c.wpIn F n P (Exit.then (fun a w => Q .normal a w) (fun _ _ _ => False)) a w) : c.wpIn F n P Q a w:=by
 refine wpIn_mono h ?_
 intro e a' w' hq
 cases e with
 | normal => exact hq
 | exit id => exact hq.elim
 | goto l => exact hq.elim
 | ret => exact hq.elim
 | panic ch => exact hq.elim
 | outgrown => exact hq.elim
theorem operIn_round {n l : Nat} {P : Program} {o : Oper} {a : Act} {w : World} {K : Act→World→Prop} {Q : Exit→Act→World→Prop} (hd : ∀ c,o.op ≠ .defer c) (h : o.wp P a w K Q) : o.wpIn (Fence.wide.inRound l) n P a w K Q:=by
 refine ⟨fun f _ => trivial,?_⟩
 rw [show (Fence.wide.inRound l).round = some l from rfl,Oper.semAt_some l _ _ hd]
 unfold Oper.wp at h
 generalize (execOp a.eval o).run P w = r at h
 cases r with
 | ok x w' =>
  cases x with
  | value v => exact h
  | skip => exact h
  | defer d => exact h
  | enter f args => exact ⟨fun hx => (by cases hx),(callsIn_wide.2 h).inRound l⟩
  | row row args => exact ⟨fun hx => (by cases hx),fun c cs _ => by
    obtain ⟨v,w'',hr,hs⟩:=h c cs
    exact ⟨v,w'',hr,stepsIn_wide.2 hs⟩⟩
  | _ => exact h.elim
 | halt x w' =>
  cases x with
  | panic v => exact h
  | _ => exact h.elim
def plainOp (o : Oper) : Bool:=match o.op with
 | .defer _ => false
 | _ => true
theorem plainOp_is {o : Oper} (h : plainOp o = true) : ∀ c,o.op ≠ .defer c:=by
 intro c e
 unfold plainOp at h
 rw [e] at h
 cases h
def upd (x : Nat→Value) (d : Nat) (v : Value) : Nat→Value:=fun n => if n = d then v else x n
theorem upd_same (x : Nat→Value) (d : Nat) (v : Value) : upd x d v d = v:=if_pos rfl
theorem upd_other (x : Nat→Value) {d n : Nat} (v : Value) (h : n ≠ d) : upd x d v n = x n:=if_neg h
def backB (md : Region.Mode) (ops : Array Oper) : Bool:=(List.range ops.size).all fun i => match ops[i]? with
 | some o => o.after.all fun e => !Region.binds md e || decide (e.on < i)
 | none => true
theorem backB_spec {md : Region.Mode} {ops : Array Oper} (h : backB md ops = true) {i : Nat} {o : Oper} (ho : ops[i]? = some o) : ∀ e ∈ o.after,Region.binds md e = true→e.on < i:=by
 have hi : i < ops.size:=(Array.getElem?_eq_some_iff.1 ho).1
 have h1:=List.all_eq_true.1 h i (List.mem_range.2 hi)
 simp only [ho] at h1
 intro e he hb
 have h2:=Array.all_eq_true_iff_forall_mem.1 h1 e he
 simp only [hb,Bool.not_true,Bool.false_or,decide_eq_true_eq] at h2
 exact h2
def apartB (ops : Array Oper) : Bool:=(List.range ops.size).all fun i => (List.range ops.size).all fun j => decide (i = j) || match ops[i]?.bind (·.dst),ops[j]?.bind (·.dst) with
 | some a,some b => decide (a ≠ b)
 | _,_ => true
theorem apartB_spec {ops : Array Oper} (h : apartB ops = true) {i j : Nat} {o o' : Oper} {d d' : Nat} (hi : ops[i]? = some o) (hj : ops[j]? = some o') (hd : o.dst = some d) (hd' : o'.dst = some d') (hne : i ≠ j) : d ≠ d':=by
 have h1:=List.all_eq_true.1 (List.all_eq_true.1 h i (List.mem_range.2 (Array.getElem?_eq_some_iff.1 hi).1)) j (List.mem_range.2 (Array.getElem?_eq_some_iff.1 hj).1)
 rw [hi,hj] at h1
 simp only [Option.bind_some,hd,hd',Bool.or_eq_true,decide_eq_true_eq] at h1
 rcases h1 with h1 | h1
 ·exact absurd h1 hne
 ·exact h1
section
variable {P : Program} {md : Region.Mode} {ops : Array Oper} {Q : Exit → Act → World → Prop}
structure FlowInv (ops : Array Oper) (Res : Nat→Value→World→Prop) (w0 : World) (listed : Array Bool) (x : Nat→Value) (w : World) : Prop where
 b : Below w0.heap.size w0 w
 res : ∀ (i : Nat) (o : Oper) (d : Nat),ops[i]? = some o→o.dst = some d→listed.getD i false = true→Res i (x d) w
theorem flow_go (F : (Nat→Value)→Act) (Res : Nat→Value→World→Prop) (w0 : World) (hback : backB md ops = true) (hapart : apartB ops = true)
  (mono : ∀ i v w w',Res i v w→Below w.heap.size w w'→Res i v w')
  (hput : ∀ (i : Nat) (o : Oper) (d : Nat),ops[i]? = some o→o.dst = some d→∀ x v,(F x).put (some d) v = F (upd x d v))
  (step : ∀ (i : Nat) (o : Oper),ops[i]? = some o→∀ x w,Below w0.heap.size w0 w→(∀ j,Region.waitsFor md ops i j = true→∀ (o' : Oper) (d' : Nat),ops[j]? = some o'→o'.dst = some d'→Res j (x d') w) →
   ∀ K : Act→World→Prop,(∀ v w',Below w.heap.size w w'→Res i v w'→K ((F x).put o.dst v) w')→wpOp P ops Q i K (F x) w)
  (done : ∀ x w,Below w0.heap.size w0 w→(∀ (i : Nat) (o : Oper) (d : Nat),ops[i]? = some o→o.dst = some d→Res i (x d) w)→Q .normal (F x) w) :
  ∀ (fuel : Nat) (U : List Nat) (listed : Array Bool) (x : Nat→Value) (w : World),listed.size = ops.size→U.length ≤ fuel→(∀ i,i < ops.size→listed.getD i false = true ∨ i ∈ U)→FlowInv ops Res w0 listed x w→wpAny P md ops Q fuel listed (F x) w:=by
 have all_done : ∀ (listed : Array Bool) (x : Nat→Value) (w : World),(∀ i,i < ops.size→listed.getD i false = true)→FlowInv ops Res w0 listed x w→Q .normal (F x) w:=fun listed x w hall hI =>
  done x w hI.b fun i o d ho hd => hI.res i o d ho hd (hall i (Array.getElem?_eq_some_iff.1 ho).1)
 have none_left : ∀ (listed : Array Bool),listed.size = ops.size→Region.ready md ops listed = []→∀ i,i < ops.size→listed.getD i false = true:=by
  intro listed hsz hr i
  induction i using Nat.strongRecOn with
  | _ i ih =>
   intro hi
   cases hl : listed.getD i false with
   | true => rfl
   | false =>
    have hm : i ∈ Region.ready md ops listed:=by
     obtain ⟨o,ho⟩ : ∃ o,ops[i]? = some o:=⟨ops[i],Array.getElem?_eq_getElem hi⟩
     exact mem_ready.2 ⟨getD_in (by rw [hsz]; exact hi) hl,o,ho,fun e he hb => by
      have hlt:=backB_spec hback ho e he hb
      exact ih e.on hlt (by omega)⟩
    rw [hr] at hm
    cases hm
 intro fuel
 induction fuel with
 | zero =>
  intro U listed x w hsz hU hL hI
  have hU0 : U = []:=List.length_eq_zero_iff.1 (Nat.le_zero.1 hU)
  subst hU0
  have hall : ∀ i,i < ops.size→listed.getD i false = true:=fun i hi => (hL i hi).resolve_right (by simp)
  refine ⟨?_,all_done listed x w hall hI⟩
  cases hr : Region.ready md ops listed with
  | nil => rfl
  | cons j rest =>
   obtain ⟨h1,o,ho,_⟩:=mem_ready.1 (by rw [hr]; exact List.mem_cons_self : j ∈ Region.ready md ops listed)
   have:=hall j (Array.getElem?_eq_some_iff.1 ho).1
   rw [getD_both h1] at this
   cases this
 | succ fuel ih =>
  intro U listed x w hsz hU hL hI
  refine ⟨fun hr => all_done listed x w (none_left listed hsz hr) hI,fun i hi => ?_⟩
  obtain ⟨hun,o,ho,hall⟩:=mem_ready.1 hi
  have hil : i < ops.size:=(Array.getElem?_eq_some_iff.1 ho).1
  have hiU : i ∈ U:=(hL i hil).resolve_left (by rw [getD_both hun]; simp)
  refine step i o ho x w hI.b (fun j hw o' d' ho' hd' => ?_) _ ?_
  ·obtain ⟨oi,hoi,e,he,hb,hon⟩:=Region.waitsFor_spec hw
   have : oi = o:=Option.some.inj (hoi.symm.trans ho)
   subst this
   exact hI.res j o' d' ho' hd' (by rw [← hon]; exact hall e he hb)
  ·intro v w' hb hres
   have hset : ∀ j,j ≠ i→(listed.setIfInBounds i true).getD j false = listed.getD j false:=fun j hj => getD_set_ne false (fun e => hj e.symm)
   have hL' : ∀ j,j < ops.size→(listed.setIfInBounds i true).getD j false = true ∨ j ∈ U.erase i:=fun j hj => by
    by_cases e : j = i
    ·subst e
     left
     rw [Array.getD_eq_getD_getElem?,Array.getElem?_setIfInBounds_self_of_lt (by rw [hsz]; exact hil)]
     rfl
    ·rcases hL j hj with h | h
     ·exact .inl (by rw [hset j e]; exact h)
     ·exact .inr ((List.mem_erase_of_ne e).2 h)
   have hlen : (U.erase i).length ≤ fuel:=by rw [List.length_erase_of_mem hiU]; omega
   cases hd : o.dst with
   | none =>
    rw [show (F x).put none v = F x from rfl]
    refine ih (U.erase i) _ x w' (by simpa using hsz) hlen hL' ⟨hI.b.trans (hb.mono hI.b.size),fun j o' d' ho' hd' hlj => ?_⟩
    by_cases e : j = i
    ·subst e
     have : o' = o:=Option.some.inj (ho'.symm.trans ho)
     subst this
     rw [hd] at hd'
     cases hd'
    ·rw [hset j e] at hlj
     exact mono j _ w w' (hI.res j o' d' ho' hd' hlj) hb
   | some d =>
    rw [hput i o d ho hd]
    refine ih (U.erase i) _ _ w' (by simpa using hsz) hlen hL' ⟨hI.b.trans (hb.mono hI.b.size),fun j o' d' ho' hd' hlj => ?_⟩
    by_cases e : j = i
    ·subst e
     have : o' = o:=Option.some.inj (ho'.symm.trans ho)
     subst this
     have : d' = d:=Option.some.inj (hd'.symm.trans hd)
     subst this
     rw [upd_same]
     exact hres
    ·rw [hset j e] at hlj
     rw [upd_other x v (apartB_spec hapart ho' ho hd' hd e)]
     exact mono j _ w w' (hI.res j o' d' ho' hd' hlj) hb
theorem wp_region_flow {id : Nat} (F : (Nat→Value)→Act) (Res : Nat→Value→World→Prop) {a : Act} (x0 : Nat→Value) {w : World} (ha : a = F x0) (hm : P.follows .mixedOrders = true) (hback : backB .any ops = true) (hapart : apartB ops = true)
  (mono : ∀ i v w w',Res i v w→Below w.heap.size w w'→Res i v w')
  (hput : ∀ (i : Nat) (o : Oper) (d : Nat),ops[i]? = some o→o.dst = some d→∀ x v,(F x).put (some d) v = F (upd x d v))
  (step : ∀ (i : Nat) (o : Oper),ops[i]? = some o→∀ x w',Below w.heap.size w w'→(∀ j,Region.waitsFor .any ops i j = true→∀ (o' : Oper) (d' : Nat),ops[j]? = some o'→o'.dst = some d'→Res j (x d') w') →
   ∀ K : Act→World→Prop,(∀ v w2,Below w'.heap.size w' w2→Res i v w2→K ((F x).put o.dst v) w2)→wpOp P ops Q i K (F x) w')
  (done : ∀ x w',Below w.heap.size w w'→(∀ (i : Nat) (o : Oper) (d : Nat),ops[i]? = some o→o.dst = some d→Res i (x d) w')→Q .normal (F x) w') : (Code.region id ops true).wp P Q a w:=by
 subst ha
 refine wp_region_any hm ?_
 refine flow_go F Res w hback hapart mono hput step done ops.size (List.range ops.size) _ x0 _ (by simp) (by simp) (fun i hi => .inr (List.mem_range.2 hi)) ⟨(Below.refl w.heap.size w).drew,fun i o d _ _ hl => ?_⟩
 rw [getD_replicate_false] at hl
 cases hl
end
theorem wp_plain {P : Program} {c : Code} {K : Act→World→Prop} {Q' : Exit→Act→World→Prop} {a : Act} {w : World} (h : c.wp P (Exit.then K (fun _ _ _ => False)) a w) : c.wp P (Exit.then K Q') a w:=by
 refine Code.wp_mono ?_ h
 intro e a' w' hq
 cases e with
 | normal => exact hq
 | exit id => exact hq.elim
 | goto l => exact hq.elim
 | ret => exact hq.elim
 | panic ch => exact hq.elim
 | outgrown => exact hq.elim
end Go.Proofs.YthhfmppealmblaaGreatDoor
namespace Go.Proofs.YthhfmppealmblaaGreatDoor
open Go.RowKit
section
variable {m : Nat} {P : Program} {md : Region.Mode} {ops : Array Oper}
theorem operIn_still {o : Oper} {a : Act} {w : World} {K : Act→Prop} {K' : Act→World→Prop} {Q : Exit→Act→World→Prop} (hk : ∀ a,K a→K' a w) (h : o.still P a w K) : o.wpIn Fence.wide m P a w K' Q:=by
 have h2 : o.wp P a w K' Q:=Oper.wp_of_still hk h
 refine ⟨fun f _ => trivial,?_⟩
 rw [show Fence.wide.round = none from rfl,Oper.semAt_none]
 unfold Oper.wp at h2
 generalize (execOp a.eval o).run P w = r at h2
 cases r with
 | ok x w' =>
  cases x with
  | value v => exact h2
  | skip => exact h2
  | defer d => exact h2
  | enter f args => exact ⟨fun hx => (by cases hx),callsIn_wide.2 h2⟩
  | row row args => exact ⟨fun hx => (by cases hx),fun c cs _ => by
    obtain ⟨v,w'',hr,hs⟩:=h2 c cs
    exact ⟨v,w'',hr,stepsIn_wide.2 hs⟩⟩
  | _ => exact h2.elim
 | halt x w' =>
  cases x with
  | panic v => exact h2
  | _ => exact h2.elim
theorem wpOpIn_still {w : World} {i : Nat} {a : Act} {K : Act→Prop} {K' : Act→World→Prop} {Q' : Exit→Act→World→Prop} (h : ∀ a,K a→K' a w) (hh : stOp P ops w i K a) : wpOpIn Fence.wide m P ops Q' i K' a w:=by
 unfold stOp at hh
 unfold wpOpIn
 cases ho : ops[i]? with
 | none => rw [ho] at hh; exact h _ hh
 | some o =>
  rw [ho] at hh
  simp only at hh ⊢
  by_cases hw : Region.wanted o (yielded ops a.tmps) = true
  ·rw [if_pos hw] at hh ⊢
   exact operIn_still h hh
  ·rw [if_neg hw] at hh ⊢
   exact ⟨fun f _ => trivial,h _ hh⟩
theorem anyIn_head {w : World} {n g : Nat} {L : Array Bool→Act→Prop} {Q' : Exit→Act→World→Prop} (hL : ∀ listed a,L listed a→wpAnyIn Fence.wide m P md ops Q' g listed a w) :
  ∀ (f : Nat) (listed : Array Bool) (a : Act),wpAnyL P md ops w n L f listed a→wpAnyIn Fence.wide m P md ops Q' (f + g) listed a w
 | 0,listed,a,h => by rw [Nat.zero_add]; exact hL _ _ h
 | f + 1,listed,a,h => by
  rw [show f + 1 + g = (f + g) + 1 by omega]
  exact ⟨fun h0 => absurd h0 h.1,fun i hi => wpOpIn_still (fun a' h' => anyIn_head hL f _ a' h') (h.2 i hi).2⟩
theorem anyIn_seq {Q' : Exit→Act→World→Prop} : ∀ (l : List Oper) (k : Nat) (listed : Array Bool) (a : Act) (w : World),(∀ j,l[j]? = ops[k + j]?) →
  Region.seqB md ops l.length k listed = true→wpListIn Fence.wide m P ops Q' l a w→wpAnyIn Fence.wide m P md ops Q' l.length listed a w
 | [],_,_,_,_,_,hB,h => ⟨by simpa [Region.seqB] using hB,h⟩
 | o :: l,k,listed,a,w,hl,hB,h => by
  have h0 : ops[k]? = some o:=by simpa using (hl 0).symm
  simp only [List.length_cons,Region.seqB,Bool.and_eq_true,decide_eq_true_eq] at hB
  refine ⟨fun h1 => (by rw [hB.1] at h1; cases h1),fun i hi => ?_⟩
  rw [hB.1] at hi
  have hik : i = k:=by simpa using hi
  subst hik
  have hw : wpOpIn Fence.wide m P ops Q' i (wpListIn Fence.wide m P ops Q' l) a w:=by unfold wpOpIn; simp only [h0]; exact h
  exact wpOpIn_mono (fun a' w' h' => anyIn_seq l (i + 1) _ a' w' (fun j => by have:=hl (j + 1); simpa [Nat.add_assoc,Nat.add_comm 1 j] using this) hB.2 h') hw
theorem wpIn_region_still_tail {id : Nat} {Q : Exit→Act→World→Prop} {a : Act} {w : World} {l : List Oper} (n : Nat) (hm : P.follows .mixedOrders = true) (hB : Region.lexTailB .any l.toArray n = true)
  (h : wpStill P l.toArray { w with drawn:=w.drawn + 1 } (fun a' => wpListIn Fence.wide m P l.toArray Q (l.drop n) a' { w with drawn:=w.drawn + 1 }) (l.take n) a) : (Code.region id l.toArray true).wpIn Fence.wide m P Q a w:=by
 simp only [Region.lexTailB,Bool.and_eq_true,decide_eq_true_eq] at hB
 obtain ⟨⟨⟨⟨hsel,hn⟩,hs⟩,hc⟩,hlex⟩:=hB
 have hn' : n < l.length:=by simpa using hn
 have htl : (l.take n).length = n:=by simp; omega
 have hdl : (l.drop n).length = l.toArray.size - n:=by simp
 have inv0 : HeadInv .any l.toArray n (Array.replicate l.toArray.size false) :=
  ⟨by simp,fun j oj _ hl => (by rw [getD_replicate_false] at hl; cases hl),fun t _ ht => getD_in (by simpa using ht) (getD_replicate_false _ _)⟩
 have H:=wpAnyL_lex (md:=.any) (g:=l.toArray.size - n) hsel hs hc hn (l.take n) 0 _ a (fun j hj => by
  have hj' : j < n:=by rw [htl] at hj; exact hj
  simp [hj']) (by simpa using htl) inv0 (by rw [htl]; exact hlex) h
 refine wpIn_region_any hm ?_
 have:=anyIn_head (m:=m) (Q':=Q) (g:=l.toArray.size - n) (fun listed a' hL => by
  have:=anyIn_seq (m:=m) (md:=.any) (Q':=Q) (l.drop n) n listed a' { w with drawn:=w.drawn + 1 } (fun j => by simp [List.getElem?_drop]) (by rw [hdl]; exact hL.1) hL.2
  rwa [hdl] at this) _ _ _ H
 rw [htl,show n + (l.toArray.size - n) = l.toArray.size by omega] at this
 exact this
theorem still_of_quiet {o : Oper} {a : Act} {w : World} {K : Act→Prop} (h : o.quiet P a (fun w' => w' = w) K) : o.still P a w K:=by
 obtain ⟨v,h1,h2⟩:=h
 have h3:=h1 w rfl
 unfold Oper.quietAt at h3
 unfold Oper.still
 generalize (execOp a.eval o).run P w = r at h3
 cases r with
 | ok x w' =>
  cases x with
  | value u =>
   obtain ⟨e1,e2⟩:=h3
   subst e2
   exact ⟨e1,h2⟩
  | skip =>
   obtain ⟨e1,e2⟩:=h3
   subst e2
   exact ⟨e1,h2⟩
  | enter f args => exact ⟨h3.1,v,h3.2,h2⟩
  | _ => exact h3.elim
 | halt x w' => exact h3.elim
theorem wpStill_of_quiet {w : World} {Q : Act→Prop} : ∀ (l : List Oper) (a : Act),wpQuiet P ops (fun w' => w' = w) Q l a→wpStill P ops w Q l a
 | [],_,h => h
 | o :: l,a,h => by
  unfold wpQuiet at h
  unfold wpStill
  by_cases hw : Region.wanted o (yielded ops a.tmps) = true
  ·rw [if_pos hw] at h ⊢
   exact still_of_quiet (Oper.quiet_mono (fun a' h' => wpStill_of_quiet l a' h') h)
  ·rw [if_neg hw] at h ⊢
   exact wpStill_of_quiet l _ h
theorem wpIn_region_quiet_tail {id : Nat} {Q : Exit→Act→World→Prop} {a : Act} {w : World} {l : List Oper} (n : Nat) (hm : P.follows .mixedOrders = true) (hB : Region.lexTailB .any l.toArray n = true)
  (h : wpQuiet P l.toArray (fun w' => w' = w.drew) (fun a' => wpListIn Fence.wide m P l.toArray Q (l.drop n) a' w.drew) (l.take n) a) : (Code.region id l.toArray true).wpIn Fence.wide m P Q a w :=
 wpIn_region_still_tail n hm hB (wpStill_of_quiet _ _ h)
end
theorem listIn_round {n l : Nat} {P : Program} {ops : Array Oper} {Q : Exit→Act→World→Prop} (hQ : ¬ LetsOut Q) : ∀ (L : List Oper) (a : Act) (w : World),(∀ o ∈ L,∀ c,o.op ≠ .defer c)→wpList P ops Q L a w→wpListIn (Fence.wide.inRound l) n P ops Q L a w
 | [],_,_,_,h => h
 | o :: L,a,w,hd,h => by
  unfold wpList at h
  unfold wpListIn
  by_cases hw : Region.wanted o (yielded ops a.tmps) = true
  ·rw [if_pos hw] at h ⊢
   rcases h with h | h
   ·exact operIn_round (hd o (by simp)) (Oper.wp_mono (fun a w h => listIn_round hQ L a w (fun o ho => hd o (by simp [ho])) h) h)
   ·exact absurd h.2 hQ
  ·rw [if_neg hw] at h ⊢
   exact ⟨fun f _ => trivial,listIn_round hQ L _ w (fun o ho => hd o (by simp [ho])) h⟩
theorem wpIn_region_plain_round {id n r : Nat} {P : Program} {Q : Exit→Act→World→Prop} {a : Act} {w : World} {l : List Oper} (hd : l.all plainOp = true) (h : wpList P l.toArray (Exit.then (fun a w => Q .normal a w) (fun _ _ _ => False)) l a w) : (Code.region id l.toArray false).wpIn (Fence.wide.inRound r) n P Q a w :=
 wpIn_normal (wpIn_region_lit (listIn_round (by rintro ⟨a,w,h⟩; exact h) l a w (fun o ho => plainOp_is (List.all_eq_true.1 hd o ho)) h))
end Go.Proofs.YthhfmppealmblaaGreatDoor
namespace Go.Proofs.YthhfmppealmblaaGreatDoor
open Go.RowKit
set_option maxHeartbeats 400000 in
theorem digit_any (c : Int) (w : World) :
    Calls Tryz.prog 173 #[.int .u8 c] w fun e w' => e = .returned (.bool (digB c))∧w = w':=by
  go_enter Tryz.func173,Tryz.ntmps173
  go_wp2
  all_goals go_ret
  all_goals (refine ⟨ret_bool ?_,rfl⟩; simp [digB, *]; try omega)
set_option maxHeartbeats 400000 in
theorem letter_any (c : Int) (w : World) (h0 : 0 ≤ c) (h1 : c < 256) :
    Calls Tryz.prog 172 #[.int .u8 c] w fun e w' => e = .returned (.bool (letB c))∧w = w':=by
  go_enter Tryz.func172,Tryz.ntmps172
  go_wp2
  all_goals go_ret
  all_goals (rw [← or32 c h0 h1]; refine ⟨ret_bool ?_,rfl⟩; simp [*]; try omega)
set_option maxRecDepth 100000 in
set_option maxHeartbeats 800000 in
theorem name_any (s : ByteArray) (w : World) (hs : s.size ≤ maxLen) :
    Calls Tryz.prog 135 #[.string s] w fun e w' => e = .returned (.bool (nameB (L s)))∧w = w':=by
  unfold maxLen at hs
  go_enter Tryz.func135,Tryz.ntmps135
  go_wp2
  go_loop [3,4,7] (fun _ _ i => ∃ k : Nat,k ≤ s.size∧i = .int .i64 k∧nameTo s k) (fun _ _ i => s.size - (intOf i).toNat)
  case atStart => exact ⟨0,Nat.zero_le _,rfl,nameTo_zero s⟩
  case round =>
    obtain ⟨k,hk,rfl,hto⟩:=hrel
    by_cases hlt : k < s.size
    · have hc0 : (0 : Int) ≤ (s[k].toNat : Int):=by omega
      have hc1:=byte_lt s[k]
      go_wp2_with (first | (go_at_call 172; refine (letter_any _ _ hc0 hc1).mono ?_; rintro e w' ⟨rfl,rfl⟩) | (go_at_call 173; refine (digit_any _ _).mono ?_; rintro e w' ⟨rfl,rfl⟩))
      all_goals first
        | (go_ret; exact ⟨ret_bool (by rw [name_bad hlt (by simp [wrdU,wrdB, *] <;> simp_all)]),rfl⟩)
        | (go_round
           case rel => exact ⟨k + 1,by omega,by go_num,nameTo_succ hto hlt (by simp [wrdU,wrdB, *] <;> simp_all) (by simp [*])⟩
           case measure => simp [intOf]; omega)
        | skip
    · have he:=Lib.hid (name_end hto (by omega))
      go_wp2
      all_goals (go_ret; exact ⟨ret_bool (by rw [he.out,Bool.eq_iff_iff]; simp <;> omega),rfl⟩)
end Go.Proofs.YthhfmppealmblaaGreatDoor
namespace Go.Proofs.YthhfmppealmblaaGreatDoor
open Go.RowKit
set_option maxHeartbeats 400000 in
theorem gcd_any (a b : Nat) (w : World) (ha : a ≤ 1000000) (hb : b ≤ 1000000) :
  Calls Tryz.prog 191 #[.int .i64 a,.int .i64 b] w fun e w' => e = .returned (.int .i64 (Nat.gcd a b))∧Below w.heap.size w w':=by
 go_enter Tryz.func191,Tryz.ntmps191
 go_wp2
 go_loopw [0,1] (fun x y wr => ∃ p q : Nat,p ≤ 1000000∧q ≤ 1000000∧x = .int .i64 p∧y = .int .i64 q∧Nat.gcd p q = Nat.gcd a b∧Below w.heap.size w wr) (fun _ y _ => (intOf y).toNat)
 case atStart => exact ⟨a,b,ha,hb,rfl,rfl,rfl,Below.refl _ _⟩
 case round =>
  obtain ⟨p,q,hp,hq,rfl,rfl,hg,hB⟩:=hrel
  have HG:=Lib.hid hg
  clear hg
  by_cases h0 : q = 0
  ·subst h0
   go_wp2
   go_ret
   exact ⟨ret_int (by rw [← HG.out]; simp),hB⟩
  ·have hn : ((q : Int) != 0) = true:=by rw [bne_iff_ne]; omega
   have hne : ¬ ((q : Int) = 0):=by omega
   have e1 : (p : Int).tmod (q : Int) = ((p % q : Nat) : Int):=by rw [Int.tmod_eq_emod_of_nonneg (by omega)]; simp
   have hlt:=Nat.mod_lt p (by omega : q > 0)
   go_wp2_with fail
   go_quiet (fail)
   go_wp2
   go_roundw
   case rel => exact ⟨q,p % q,by omega,by omega,rfl,by first | rfl | go_num,by rw [← HG.out,Nat.gcd_comm p q,Nat.gcd_rec q p,Nat.gcd_comm],below_drewN hB _⟩
   case measure => simp [intOf]; omega
def ValidF (n d : Int) : Prop:=1 ≤ d∧d ≤ 15∧1 ≤ n∧n ≤ 64 * d∧Int.gcd n d = 1
instance (n d : Int) : Decidable (ValidF n d):=by unfold ValidF; infer_instance
set_option maxHeartbeats 800000 in
theorem valid_no (n d : Int) (w : World) (h : d < 1 ∨ (1 ≤ d∧15 < d) ∨ (1 ≤ d∧d ≤ 15∧n < 1) ∨ (1 ≤ d∧d ≤ 15∧1 ≤ n∧64 * d < n)) :
  Calls Tryz.prog 185 #[.agg #[.int .i64 n,.int .i64 d]] w fun e w' => e = .returned (.bool false)∧Below w.heap.size w w':=by
 rcases h with h | ⟨h1,h⟩ | ⟨h1,h2,h⟩ | ⟨h1,h2,h3,h⟩
 all_goals
  go_enter Tryz.func185,Tryz.ntmps185
  go_wp2
  go_ret
  exact ⟨rfl,(Below.refl _ _).alloc (Nat.le_refl _) _⟩
set_option maxHeartbeats 800000 in
theorem valid_gcd (n d : Nat) (w : World) (h1 : 1 ≤ d) (h2 : d ≤ 15) (h3 : 1 ≤ n) (h4 : n ≤ 64 * d) :
  Calls Tryz.prog 185 #[.agg #[.int .i64 n,.int .i64 d]] w fun e w' => e = .returned (.bool ((Nat.gcd n d : Int) == 1))∧Below w.heap.size w w':=by
 have g1 : (1 : Int) ≤ (d : Int):=by omega
 have g2 : (d : Int) ≤ (15 : Int):=by omega
 have g3 : (1 : Int) ≤ (n : Int):=by omega
 have g4 : (n : Int) ≤ 64 * (d : Int):=by omega
 have m1 : n ≤ 1000000:=by omega
 have m2 : d ≤ 1000000:=by omega
 go_enter Tryz.func185,Tryz.ntmps185
 go_wp2_with (go_at_call 191; refine (gcd_any n d _ m1 m2).mono ?_; rintro e w' ⟨rfl,hb⟩)
 go_ret
 exact ⟨rfl,((Below.refl _ _).alloc (Nat.le_refl _) _).trans (hb.mono (by simp))⟩
theorem valid_any (n d : Int) (w : World) :
  Calls Tryz.prog 185 #[.agg #[.int .i64 n,.int .i64 d]] w fun e w' => e = .returned (.bool (decide (ValidF n d)))∧Below w.heap.size w w':=by
 by_cases h : 1 ≤ d∧d ≤ 15∧1 ≤ n∧n ≤ 64 * d
 ·obtain ⟨h1,h2,h3,h4⟩:=h
  obtain ⟨a,rfl⟩:=Int.eq_ofNat_of_zero_le (show 0 ≤ n by omega)
  obtain ⟨b,rfl⟩:=Int.eq_ofNat_of_zero_le (show 0 ≤ d by omega)
  refine (valid_gcd a b w (by omega) (by omega) (by omega) (by omega)).mono ?_
  rintro e w' ⟨rfl,hb⟩
  refine ⟨ret_bool ?_,hb⟩
  have hg : Int.gcd (a : Int) (b : Int) = Nat.gcd a b:=rfl
  rw [Bool.eq_iff_iff,decide_eq_true_eq,beq_iff_eq,ValidF,hg]
  omega
 ·refine (valid_no n d w (by omega)).mono ?_
  rintro e w' ⟨rfl,hb⟩
  exact ⟨ret_bool (by rw [eq_comm,decide_eq_false_iff_not]; rintro ⟨a,b,c,e,_⟩; exact h ⟨a,b,c,e⟩),hb⟩
theorem itoa_s (n : Int) (s : ByteArray) (hs : L s = Lib.itoa n) (w : World) (h1 : -9223372036854775808 ≤ n) (h2 : n ≤ 9223372036854775807) (t : Tabs w) :
  Calls Tryz.prog 186 #[.int .i64 n] w fun e w' => e = .returned (.string s)∧Below w.heap.size w w' :=
 (itoa_any n w h1 h2 t).mono fun _ _ ⟨he,hb⟩ => ⟨by rw [he,mk_of_L hs],hb⟩
theorem held_step {w W w' : World} {a : Addr} {v : Value} (hh : W.cell? a = some v∧Below w.heap.size w W) (hb : Below W.heap.size W w') : w'.cell? a = some v∧Below w.heap.size w w' :=
 ⟨(hb.cell (cell_size hh.1)).trans hh.1,hh.2.trans (hb.mono hh.2.size)⟩
theorem held_tabs {w W : World} {a : Addr} {v : Value} (t : Tabs w) (hh : W.cell? a = some v∧Below w.heap.size w W) : Tabs W:=t.below hh.2
def partL (r d : Nat) : List UInt8:=Lib.itoa r ++ 47 :: Lib.itoa d
def feetQ (q r d : Nat) : List UInt8:=if d = 1 then Lib.itoa q else if q = 0 then partL r d else Lib.itoa q ++ 43 :: partL r d
def feetL (n d : Nat) : List UInt8:=feetQ (n / d) (n % d) d
set_option maxHeartbeats 400000 in
theorem feet_no (n d : Int) (w : World) (h : ¬ ValidF n d) :
  Calls Tryz.prog 171 #[.agg #[.int .i64 n,.int .i64 d]] w fun e w' => e = .returned (.tuple #[.string ⟨#[]⟩,.int .i64 2])∧Below w.heap.size w w':=by
 have hv:=Lib.hid (fun w => valid_any n d w)
 have hd : decide (ValidF n d) = false:=decide_eq_false h
 clear h
 go_enter Tryz.func171,Tryz.ntmps171
 go_wp2_with (go_at_call 185; refine (hv.out _).mono ?_; rw [hd]; rintro e w' ⟨rfl,hb⟩)
 go_ret2
 exact ⟨rfl,((Below.refl _ _).alloc (Nat.le_refl _) _).trans (hb.mono (by simp))⟩
set_option maxHeartbeats 1600000 in
theorem feet_yes (n d : Nat) (f : ByteArray) (hf : L f = feetL n d) (w : World) (t : Tabs w) (h : ValidF n d) :
  Calls Tryz.prog 171 #[.agg #[.int .i64 n,.int .i64 d]] w fun e w' => e = .returned (.tuple #[.string f,.int .i64 0])∧Below w.heap.size w w':=by
 have hv:=Lib.hid (fun w => valid_any n d w)
 have hd : decide (ValidF n d) = true:=decide_eq_true h
 have hd1 : 1 ≤ d:=by have:=h.1; omega
 have hd2 : d ≤ 15:=by have:=h.2.1; omega
 have hn1 : n ≤ 960:=by have:=h.2.2.2.1; omega
 clear h
 have hr : n % d ≤ 960:=by have:=Nat.mod_lt n (by omega : d > 0); omega
 have hq : n / d ≤ 960:=by have:=Nat.div_le_self n d; omega
 have e1 : (n : Int).tdiv (d : Int) = ((n / d : Nat) : Int):=by rw [Int.tdiv_eq_ediv_of_nonneg (by omega)]; simp
 have e2 : (n : Int).tmod (d : Int) = ((n % d : Nat) : Int):=by rw [Int.tmod_eq_emod_of_nonneg (by omega)]; simp
 unfold feetL at hf
 generalize n / d = q at *
 generalize n % d = r at *
 have l1:=itoa_le (r : Int) (by omega) (by omega)
 have l2:=itoa_le (d : Int) (by omega) (by omega)
 have l3:=itoa_le (q : Int) (by omega) (by omega)
 obtain ⟨sr,hsr⟩:=mkL (Lib.itoa (r : Int))
 obtain ⟨sd,hsd⟩:=mkL (Lib.itoa (d : Int))
 obtain ⟨sq,hsq⟩:=mkL (Lib.itoa (q : Int))
 have z1 : sr.size ≤ 21:=by rw [size_of_L hsr]; exact l1
 have z2 : sd.size ≤ 21:=by rw [size_of_L hsd]; exact l2
 have z3 : sq.size ≤ 21:=by rw [size_of_L hsq]; exact l3
 have hne : ¬ ((d : Int) = 0):=by omega
 have HF:=Lib.hid hf
 clear hf
 have cR:=Lib.hid (fun w t => itoa_s r sr hsr w (by omega) (by omega) t)
 have cD:=Lib.hid (fun w t => itoa_s d sd hsd w (by omega) (by omega) t)
 have cQ:=Lib.hid (fun w t => itoa_s q sq hsq w (by omega) (by omega) t)
 have HR:=Lib.hid hsr
 have HD:=Lib.hid hsd
 have HQ:=Lib.hid hsq
 clear hsr hsd hsq l1 l2 l3
 have p1 : ¬ 9223372036854775807 < sr.size + 1:=by omega
 have p2 : ¬ 9223372036854775807 < sr.size + 1 + sd.size:=by omega
 go_enter Tryz.func171,Tryz.ntmps171
 go_wp2_with (go_at_call 185; refine (hv.out _).mono ?_; rw [hd]; rintro e w1 ⟨rfl,hb⟩)
 have hbW : Below w.heap.size w w1:=((Below.refl _ w).alloc (Nat.le_refl _) _).trans (hb.mono (by simp))
 have c0 : w1.cell? ⟨w.heap.size,0,none⟩ = some (.int .i64 n):=(hb.cell (by simp)).trans (by simp)
 have c1 : w1.cell? ⟨w.heap.size,1,none⟩ = some (.int .i64 d):=(hb.cell (by simp)).trans (by simp)
 have hz:=hb.size
 simp only [World.size_alloc] at hz
 have tw1:=t.below hbW
 clear hb
 go_quiet (fail)
 have hb2:=below_drewN hbW nq
 have c2 : (w1.drewN nq).cell? ⟨w.heap.size,1,none⟩ = some (.int .i64 d):=c1
 generalize w1.drewN nq = w2 at hb2 c2
 have hz2:=hb2.size
 clear c0 c1 hz tw1 hbW
 go_wp2_with fail
 go_region_held3 (fun w' => w'.cell? ⟨w.heap.size,1,none⟩ = some (.int .i64 d)∧Below w.heap.size w w') (first | exact ⟨c2,hb2.drew⟩ | assumption)
  (first | (go_at_call_of 186 (Value.int IntKind.i64 (r : Int)); refine (cR.out _ (by exact held_tabs (a:=⟨w.heap.size,1,none⟩) (v:=.int .i64 d) t (by assumption))).mono ?_; rintro e w' ⟨rfl,hbb⟩; have hn:=held_step (w:=w) (a:=⟨w.heap.size,1,none⟩) (v:=.int .i64 d) (by assumption) hbb; clear hbb) | (go_at_call_of 186 (Value.int IntKind.i64 (d : Int)); refine (cD.out _ (by exact held_tabs (a:=⟨w.heap.size,1,none⟩) (v:=.int .i64 d) t (by assumption))).mono ?_; rintro e w' ⟨rfl,hbb⟩; have hn:=held_step (w:=w) (a:=⟨w.heap.size,1,none⟩) (v:=.int .i64 d) (by assumption) hbb; clear hbb))
 obtain ⟨c3,hb3⟩:=hn
 have tw3:=t.below hb3
 have hz3:=hb3.size
 obtain ⟨sp,hsp⟩ : ∃ sp,sr ++ ⟨#[47]⟩ ++ sd = sp:=⟨_,rfl⟩
 rw [hsp]
 have hP : L sp = partL r d:=by rw [← hsp,L_append,L_append,HR.out,HD.out]; simp [partL,L]
 have z4 : sp.size ≤ 43:=by rw [size_of_L hP,partL,List.length_append,List.length_cons,← HR.out,← HD.out,L_length,L_length]; omega
 have HP:=Lib.hid hP
 have p3 : ¬ 9223372036854775807 < sq.size + 1:=by omega
 have p4 : ¬ 9223372036854775807 < sq.size + 1 + sp.size:=by omega
 clear hsp hP p1 p2 z1 z2 cR cD hb2 c2 hz2
 by_cases hd1' : d = 1
 ·have b1 : ((d : Int) == 1) = true:=by rw [beq_iff_eq]; omega
  have H1:=Lib.hid hd1'
  clear hd1'
  go_wp2_with (go_at_call 186; refine (cQ.out _ tw3).mono ?_; rintro e w4 ⟨rfl,hb4⟩)
  go_ret2
  exact ⟨ret_tup (eq_of_L (by rw [HF.out,feetQ,if_pos H1.out,HQ.out])) rfl,hb3.trans (hb4.mono hz3)⟩
 ·have b1 : ((d : Int) == 1) = false:=by rw [beq_eq_false_iff_ne]; omega
  have H1:=Lib.hid hd1'
  clear hd1'
  by_cases hq0 : q = 0
  ·have b2 : ((q : Int) == 0) = true:=by rw [beq_iff_eq]; omega
   have H2:=Lib.hid hq0
   clear hq0
   go_wp2
   go_ret2
   exact ⟨ret_tup (eq_of_L (by rw [HF.out,feetQ,if_neg H1.out,if_pos H2.out,HP.out])) rfl,hb3⟩
  ·have b2 : ((q : Int) == 0) = false:=by rw [beq_eq_false_iff_ne]; omega
   have H2:=Lib.hid hq0
   clear hq0
   go_wp2_with (go_at_call 186; refine (cQ.out _ tw3).mono ?_; rintro e w4 ⟨rfl,hb4⟩)
   go_ret2
   exact ⟨ret_tup (eq_of_L (by rw [HF.out,feetQ,if_neg H1.out,if_neg H2.out,L_append,L_append,HQ.out,HP.out]; simp [L])) rfl,hb3.trans (hb4.mono hz3)⟩
end Go.Proofs.YthhfmppealmblaaGreatDoor
