/-
  A part of the proof: Plain, Shelf, Tabs, SpP, Blk, Base, Arr, OpenS, Open, W1, W10.
-/
import Derived.WalkKit
import Derived.WalkSpells
import Derived.Lib.Strings
import Derived.Shelf.Small.Bits
import Derived.Shelf.Small.Wraps
import Derived.Shelf.Strconv.Itoa0
import Derived.Shelf.Strconv.Itoa1
import Derived.Shelf.LaysM
import Derived.Shelf.Strconv.Itoa2
import Derived.Shelf.Strconv.Itoa3
import Derived.Shelf.Strconv.Itoa4
import Derived.Ground.Names2Prog
import Derived.Shelf.Slices.SearchI
import Derived.Ground.SlgnProg
import Derived.Shelf.SlicesG.SearchI
import Derived.Ground.SlgcProg
import Derived.Shelf.SlicesG.Cmp
import Derived.Test.YthhfmppealmblaaGreatDoorProg
import Derived.Test.YthhfmppealmblaaGreatDoorRows
import Derived.WalkLawsBesides
import Derived.Lib.Hide
import Derived.Lib.LaidTab
import Derived.Lib.ItoaLen
import Derived.WalkSmall
import Derived.RangeFuncBox
import Derived.Deep.Slices
import Derived.Deep.Fields
import Derived.ChangeSame
import Derived.ChangeArms
import Derived.OpenShut
import Derived.Lib.SmallJoins
import Derived.Test.YthhfmppealmblaaGreatDoorCards
import Derived.Test.YthhfmppealmblaaGreatDoorTie
import Derived.ProofKit
import Derived.Deep.DeepHandedRow
import Derived.Deep.DeepWitnessRowRef
import Derived.LaidMore
import Derived.ShutString
import Derived.Stop.LaidErr
import Derived.MakeChecks
import Derived.Deep.QuietTactic
import Derived.BigQuiet
import Derived.Deep.RegionHeld3
namespace Go.Proofs.YthhfmppealmblaaGreatDoor
open Go.RowKit
def digB (c:Int):Bool:=decide (48≤c) && decide (c≤57)
def letB (c:Int):Bool:=decide (97≤c) && decide (c≤122) || decide (65≤c) && decide (c≤90)
def wrdB (c:Int):Bool:=letB c || digB c || decide (c=95)
def L (s:ByteArray):List UInt8:=s.data.toList
theorem L_length (s:ByteArray):(L s).length=s.size:=by unfold L;rw [Array.length_toList];rfl
theorem L_get (s:ByteArray) (k:Nat) (h:k<s.size):(L s)[k]'(by rw [L_length];exact h)=s[k]:=by
 rfl
theorem take_snoc (s:ByteArray) (k:Nat) (h:k<s.size):(L s).take (k+1)=(L s).take k++[s[k]]:=by
 rw [List.take_succ_eq_append_getElem (by rw [L_length];exact h),L_get s k h]
theorem take_all (s:ByteArray) (k:Nat) (h:s.size≤k):(L s).take k=L s:=List.take_of_length_le (by rw [L_length];exact h)
theorem mkL (l:List UInt8):∃ q:ByteArray,L q=l:=⟨⟨l.toArray⟩,rfl⟩
theorem eq_of_L {a b:ByteArray} (h:L a=L b):a=b:=by
 obtain ⟨⟨x⟩⟩:=a;obtain ⟨⟨y⟩⟩:=b
 have h':x=y:=h
 rw [h']
theorem mk_of_L {q:ByteArray} {l:List UInt8} (h:L q=l):(⟨l.toArray⟩:ByteArray)=q:=eq_of_L h.symm
theorem size_of_L {q:ByteArray} {l:List UInt8} (h:L q=l):q.size=l.length:=by rw [← h,L_length]
theorem L_append (a b:ByteArray):L (a++b)=L a++L b:=by
 obtain ⟨⟨x⟩⟩:=a;obtain ⟨⟨y⟩⟩:=b
 rw [ByteArray.mk_append_mk];rfl
theorem allTo_succ (s:ByteArray) (p:UInt8→Bool) (k:Nat) (h:k<s.size):((L s).take (k+1)).all p=(((L s).take k).all p && p s[k]):=by
 rw [take_snoc s k h];simp
theorem all_no (s:ByteArray) (p:UInt8→Bool) (k:Nat) (h:k<s.size) (hp:p s[k]=false):(L s).all p=false:=by
 rw [Bool.eq_false_iff]
 intro ha
 rw [List.all_eq_true] at ha
 have:=ha s[k] (by rw [← L_get s k h];exact List.getElem_mem _)
 simp [hp] at this
theorem byte_lt (c:UInt8):(c.toNat:Int)<256:=by have:=c.toNat_lt;omega
theorem ret_bool {a b:Bool} (h:a=b):Ending.returned (.bool a) = .returned (.bool b):=by rw [h]
theorem ret_int {k:IntKind} {a b:Int} (h:a=b):Ending.returned (.int k a) = .returned (.int k b):=by rw [h]
theorem or32_fin:∀ n:Fin 256,(decide (97≤bits .or .u8 (n.val:Int) 32) && decide (bits .or .u8 (n.val:Int) 32≤122))=letB (n.val:Int):=by decide +kernel
theorem or32 (c:Int) (h0:0≤c) (h1:c<256):(decide (97≤bits .or .u8 c 32) && decide (bits .or .u8 c 32≤122))=letB c:=by
 obtain ⟨n,rfl⟩:=Int.eq_ofNat_of_zero_le h0
 exact or32_fin ⟨n,by omega⟩
def wrdU (c:UInt8):Bool:=wrdB (c.toNat:Int)
def nameB (l:List UInt8):Bool:=decide (1≤l.length) && decide (l.length≤16) && letB ((l.headD 0).toNat:Int) && l.all wrdU
theorem head_eq (s:ByteArray) (h:0<s.size):(L s).headD 0=s[0]:=by
 have e:=L_get s 0 h
 have hl:=L_length s
 cases hL:L s with
 | nil=>rw [hL] at hl;simp at hl;omega
 | cons a t=>simp only [hL] at e;simpa using e
def nameTo (s:ByteArray) (k:Nat):Prop:=((L s).take k).all wrdU=true∧(0<k→letB ((L s).headD 0).toNat=true)
theorem nameTo_zero (s:ByteArray):nameTo s 0:=⟨by simp,fun h=>absurd h (Nat.lt_irrefl 0)⟩
theorem nameTo_succ {s:ByteArray} {k:Nat} (h:nameTo s k) (hk:k<s.size) (hw:wrdU s[k]=true) (h0:k=0→letB (s[k].toNat:Int)=true):nameTo s (k+1):=by
 refine ⟨by rw [allTo_succ s _ k hk,h.1,hw];rfl,fun _=>?_⟩
 by_cases e:k=0
 ·subst e;rw [head_eq s hk];exact h0 rfl
 ·exact h.2 (by omega)
theorem name_bad {s:ByteArray} {k:Nat} (hk:k<s.size) (hb:wrdU s[k]=false∨(k=0∧letB (s[k].toNat:Int)=false)):nameB (L s)=false:=by
 rcases hb with hb | ⟨rfl,hb⟩
 ·unfold nameB;rw [all_no s wrdU k hk hb];simp
 ·unfold nameB;rw [head_eq s hk,hb];simp
theorem name_end {s:ByteArray} {k:Nat} (h:nameTo s k) (hk:s.size≤k):nameB (L s)=(decide (1≤s.size) && decide (s.size≤16)):=by
 have h1:=h.1
 rw [take_all s k hk] at h1
 unfold nameB
 rw [L_length,h1]
 by_cases e:1≤s.size
 ·rw [h.2 (by omega)];simp
 ·simp [e]
end Go.Proofs.YthhfmppealmblaaGreatDoor
namespace Go.Proofs
open Go.Shelf
def Tryz.laysM246_ren:Go.Shelf.Ren:=⟨fun | 246=>187 | 283=>193 | 284=>194 | 285=>195 | 286=>196 | 129=>128 | 317=>197 | 318=>198 | 319=>199 | 320=>200 | 337=>201 | 338=>202 | n=>n,fun | 2=>2 | 3=>3 | 9=>9 | 4=>4 | 171=>274 | 0=>0 | 53=>229 | 37=>276 | 5=>5 | 173=>277 | 212=>281 | 51=>227 | 20=>20 | 213=>282 | 46=>175 | 232=>283 | 233=>284 | n=>n,fun | 17=>0 | 18=>1 | 19=>2 | n=>n⟩
def Tryz.laysM243_ren:Go.Shelf.Ren:=⟨fun | 243=>192 | 246=>187 | 283=>193 | 284=>194 | 285=>195 | 286=>196 | 129=>128 | 317=>197 | 318=>198 | 319=>199 | 320=>200 | 337=>201 | 338=>202 | n=>n,fun | 3=>3 | 9=>9 | 2=>2 | 4=>4 | 171=>274 | 0=>0 | 53=>229 | 37=>276 | 5=>5 | 173=>277 | 212=>281 | 51=>227 | 20=>20 | 213=>282 | 46=>175 | 232=>283 | 233=>284 | n=>n,fun | 17=>0 | 18=>1 | 19=>2 | n=>n⟩
def Tryz.laysM171_ren:Go.Shelf.Ren:=⟨fun | 171=>186 | 243=>192 | 246=>187 | 283=>193 | 284=>194 | 285=>195 | 286=>196 | 129=>128 | 317=>197 | 318=>198 | 319=>199 | 320=>200 | 337=>201 | 338=>202 | n=>n,fun | 3=>3 | 9=>9 | 2=>2 | 4=>4 | 171=>274 | 0=>0 | 53=>229 | 37=>276 | 5=>5 | 173=>277 | 212=>281 | 51=>227 | 20=>20 | 213=>282 | 46=>175 | 232=>283 | 233=>284 | n=>n,fun | 17=>0 | 18=>1 | 19=>2 | n=>n⟩
theorem Tryz.laysM171:Go.Proofs.LaysM.n171 Tryz.prog Tryz.laysM171_ren:={
 mixed:=by kernel_rfl
 f129:=Tryz.func128.trans (congrArg some (by kernel_rfl))
 f171:=Tryz.func186.trans (congrArg some (by kernel_rfl))
 f243:=Tryz.func192.trans (congrArg some (by kernel_rfl))
 f246:=Tryz.func187.trans (congrArg some (by kernel_rfl))
 f283:=Tryz.func193.trans (congrArg some (by kernel_rfl))
 f284:=Tryz.func194.trans (congrArg some (by kernel_rfl))
 f285:=Tryz.func195.trans (congrArg some (by kernel_rfl))
 f286:=Tryz.func196.trans (congrArg some (by kernel_rfl))
 f317:=Tryz.func197.trans (congrArg some (by kernel_rfl))
 f318:=Tryz.func198.trans (congrArg some (by kernel_rfl))
 f319:=Tryz.func199.trans (congrArg some (by kernel_rfl))
 f320:=Tryz.func200.trans (congrArg some (by kernel_rfl))
 f337:=Tryz.func201.trans (congrArg some (by kernel_rfl))
 f338:=Tryz.func202.trans (congrArg some (by kernel_rfl))
 t0:=Tryz.underlying0
 a0:=Tryz.isAgg0
 z0:=Tryz.sizeOf0
 v0:=Tryz.zeroValue0
 t2:=Tryz.underlying2
 a2:=Tryz.isAgg2
 z2:=Tryz.sizeOf2
 v2:=Tryz.zeroValue2
 t3:=Tryz.underlying3
 a3:=Tryz.isAgg3
 z3:=Tryz.sizeOf3
 v3:=Tryz.zeroValue3
 t4:=Tryz.underlying4
 a4:=Tryz.isAgg4
 z4:=Tryz.sizeOf4
 v4:=Tryz.zeroValue4
 t5:=Tryz.underlying5
 a5:=Tryz.isAgg5
 z5:=Tryz.sizeOf5
 v5:=Tryz.zeroValue5
 t9:=Tryz.underlying9
 a9:=Tryz.isAgg9
 z9:=Tryz.sizeOf9
 v9:=Tryz.zeroValue9
 t20:=Tryz.underlying20
 a20:=Tryz.isAgg20
 z20:=Tryz.sizeOf20
 v20:=Tryz.zeroValue20
 t37:=Tryz.underlying276
 a37:=Tryz.isAgg276
 z37:=Tryz.sizeOf276
 v37:=Tryz.zeroValue276
 t46:=Tryz.underlying175
 a46:=Tryz.isAgg175
 z46:=Tryz.sizeOf175
 v46:=Tryz.zeroValue175
 t51:=Tryz.underlying227
 a51:=Tryz.isAgg227
 z51:=Tryz.sizeOf227
 v51:=Tryz.zeroValue227
 t53:=Tryz.underlying229
 a53:=Tryz.isAgg229
 z53:=Tryz.sizeOf229
 v53:=Tryz.zeroValue229
 t171:=Tryz.underlying274
 a171:=Tryz.isAgg274
 z171:=Tryz.sizeOf274
 v171:=Tryz.zeroValue274
 t173:=Tryz.underlying277
 a173:=Tryz.isAgg277
 z173:=Tryz.sizeOf277
 v173:=Tryz.zeroValue277
 t212:=Tryz.underlying281
 a212:=Tryz.isAgg281
 z212:=Tryz.sizeOf281
 v212:=Tryz.zeroValue281
 t213:=Tryz.underlying282
 a213:=Tryz.isAgg282
 z213:=Tryz.sizeOf282
 t232:=Tryz.underlying283
 a232:=Tryz.isAgg283
 z232:=Tryz.sizeOf283
 v232:=Tryz.zeroValue283
 t233:=Tryz.underlying284
 a233:=Tryz.isAgg284
 z233:=Tryz.sizeOf284
 v233:=Tryz.zeroValue284
 g17:=by kernel_rfl
 g18:=by kernel_rfl
 g19:=by kernel_rfl
 i0:=by kernel_rfl
 i2:=by kernel_rfl
 i3:=by kernel_rfl
 i4:=by kernel_rfl
 i5:=by kernel_rfl
 i9:=by kernel_rfl
 i20:=by kernel_rfl
 i37:=by kernel_rfl
 i46:=by kernel_rfl
 i51:=by kernel_rfl
 i53:=by kernel_rfl
 i171:=by kernel_rfl
 i173:=by kernel_rfl
 i212:=by kernel_rfl
 i232:=by kernel_rfl
 i233:=by kernel_rfl
 m17:=by kernel_rfl
 m18:=by kernel_rfl
 m19:=by kernel_rfl }
open Go.RowKit Go.Sort Go.Lib in
theorem Tryz.strconv_Itoa (n:Int) (h0 : -9223372036854775808≤n) (h1:n≤9223372036854775807) (w:World) (htab:Lib.TabIs Tryz.prog w "internal/strconv.uint64pow10" .u64 Lib.pow10Tab) :
  Calls Tryz.prog 186 #[.int .i64 n] w fun e w'=>e = .returned (.string ⟨(Lib.itoa n).toArray⟩)∧∃ k os,w'=grow (w.drewN k) os:=Any.strconv_Itoa Tryz.laysM171 n h0 h1 w htab
def Tryz.laysM173_ren:Go.Shelf.Ren:=⟨fun | 173=>174 | 246=>187 | 283=>193 | 284=>194 | 285=>195 | 286=>196 | 129=>128 | 317=>197 | 318=>198 | 319=>199 | 320=>200 | 337=>201 | 338=>202 | n=>n,fun | 2=>2 | 3=>3 | 9=>9 | 4=>4 | 171=>274 | 0=>0 | 53=>229 | 37=>276 | 5=>5 | 173=>277 | 212=>281 | 51=>227 | 20=>20 | 213=>282 | 46=>175 | 232=>283 | 233=>284 | n=>n,fun | 17=>0 | 18=>1 | 19=>2 | n=>n⟩
theorem Tryz.laysM173:Go.Proofs.LaysM.n173 Tryz.prog Tryz.laysM173_ren:={
 mixed:=by kernel_rfl
 f129:=Tryz.func128.trans (congrArg some (by kernel_rfl))
 f173:=Tryz.func174.trans (congrArg some (by kernel_rfl))
 f246:=Tryz.func187.trans (congrArg some (by kernel_rfl))
 f283:=Tryz.func193.trans (congrArg some (by kernel_rfl))
 f284:=Tryz.func194.trans (congrArg some (by kernel_rfl))
 f285:=Tryz.func195.trans (congrArg some (by kernel_rfl))
 f286:=Tryz.func196.trans (congrArg some (by kernel_rfl))
 f317:=Tryz.func197.trans (congrArg some (by kernel_rfl))
 f318:=Tryz.func198.trans (congrArg some (by kernel_rfl))
 f319:=Tryz.func199.trans (congrArg some (by kernel_rfl))
 f320:=Tryz.func200.trans (congrArg some (by kernel_rfl))
 f337:=Tryz.func201.trans (congrArg some (by kernel_rfl))
 f338:=Tryz.func202.trans (congrArg some (by kernel_rfl))
 t0:=Tryz.underlying0
 a0:=Tryz.isAgg0
 z0:=Tryz.sizeOf0
 v0:=Tryz.zeroValue0
 t2:=Tryz.underlying2
 a2:=Tryz.isAgg2
 z2:=Tryz.sizeOf2
 v2:=Tryz.zeroValue2
 t3:=Tryz.underlying3
 a3:=Tryz.isAgg3
 z3:=Tryz.sizeOf3
 v3:=Tryz.zeroValue3
 t4:=Tryz.underlying4
 a4:=Tryz.isAgg4
 z4:=Tryz.sizeOf4
 v4:=Tryz.zeroValue4
 t5:=Tryz.underlying5
 a5:=Tryz.isAgg5
 z5:=Tryz.sizeOf5
 v5:=Tryz.zeroValue5
 t9:=Tryz.underlying9
 a9:=Tryz.isAgg9
 z9:=Tryz.sizeOf9
 v9:=Tryz.zeroValue9
 t20:=Tryz.underlying20
 a20:=Tryz.isAgg20
 z20:=Tryz.sizeOf20
 v20:=Tryz.zeroValue20
 t37:=Tryz.underlying276
 a37:=Tryz.isAgg276
 z37:=Tryz.sizeOf276
 v37:=Tryz.zeroValue276
 t46:=Tryz.underlying175
 a46:=Tryz.isAgg175
 z46:=Tryz.sizeOf175
 v46:=Tryz.zeroValue175
 t51:=Tryz.underlying227
 a51:=Tryz.isAgg227
 z51:=Tryz.sizeOf227
 v51:=Tryz.zeroValue227
 t53:=Tryz.underlying229
 a53:=Tryz.isAgg229
 z53:=Tryz.sizeOf229
 v53:=Tryz.zeroValue229
 t171:=Tryz.underlying274
 a171:=Tryz.isAgg274
 z171:=Tryz.sizeOf274
 v171:=Tryz.zeroValue274
 t173:=Tryz.underlying277
 a173:=Tryz.isAgg277
 z173:=Tryz.sizeOf277
 v173:=Tryz.zeroValue277
 t212:=Tryz.underlying281
 a212:=Tryz.isAgg281
 z212:=Tryz.sizeOf281
 v212:=Tryz.zeroValue281
 t213:=Tryz.underlying282
 a213:=Tryz.isAgg282
 z213:=Tryz.sizeOf282
 t232:=Tryz.underlying283
 a232:=Tryz.isAgg283
 z232:=Tryz.sizeOf283
 v232:=Tryz.zeroValue283
 t233:=Tryz.underlying284
 a233:=Tryz.isAgg284
 z233:=Tryz.sizeOf284
 v233:=Tryz.zeroValue284
 g17:=by kernel_rfl
 g18:=by kernel_rfl
 g19:=by kernel_rfl
 i0:=by kernel_rfl
 i2:=by kernel_rfl
 i3:=by kernel_rfl
 i4:=by kernel_rfl
 i5:=by kernel_rfl
 i9:=by kernel_rfl
 i20:=by kernel_rfl
 i37:=by kernel_rfl
 i46:=by kernel_rfl
 i51:=by kernel_rfl
 i53:=by kernel_rfl
 i171:=by kernel_rfl
 i173:=by kernel_rfl
 i212:=by kernel_rfl
 i232:=by kernel_rfl
 i233:=by kernel_rfl
 m17:=by kernel_rfl
 m18:=by kernel_rfl
 m19:=by kernel_rfl }
open Go.RowKit Go.Sort Go.Lib in
theorem Tryz.strconv_FormatInt_10 (n:Int) (h0 : -9223372036854775808≤n) (h1:n≤9223372036854775807) (w:World) (htab:Lib.TabIs Tryz.prog w "internal/strconv.uint64pow10" .u64 Lib.pow10Tab) :
  Calls Tryz.prog 174 #[.int .i64 n,.int .i64 10] w fun e w'=>e = .returned (.string ⟨(Lib.itoa n).toArray⟩)∧∃ k os,w'=grow (w.drewN k) os:=Any.strconv_FormatInt_10 Tryz.laysM173 n h0 h1 w htab
def Tryz.lays189_ren:Go.Shelf.Ren:=⟨fun | 189=>92 | 125=>87 | 257=>131 | 128=>127 | 129=>128 | 294=>162 | 295=>163 | 296=>164 | 297=>165 | 298=>166 | 299=>167 | 216=>168 | 300=>169 | 301=>170 | 328=>182 | 329=>158 | 330=>159 | 331=>183 | 332=>184 | 215=>129 | 343=>190 | n=>n,fun | 28=>68 | 3=>3 | 46=>175 | 0=>0 | 51=>227 | 53=>229 | 4=>4 | 183=>220 | 182=>219 | 131=>224 | 5=>5 | 9=>9 | 218=>247 | 222=>251 | 228=>265 | 229=>266 | n=>n,fun | n=>n⟩
theorem Tryz.lays189:Go.Proofs.Lays.n189 Tryz.prog Tryz.lays189_ren:={
 mixed:=by kernel_rfl
 f125:=Tryz.func87.trans (congrArg some (by kernel_rfl))
 f128:=Tryz.func127.trans (congrArg some (by kernel_rfl))
 f129:=Tryz.func128.trans (congrArg some (by kernel_rfl))
 f189:=Tryz.func92.trans (congrArg some (by kernel_rfl))
 f215:=Tryz.func129.trans (congrArg some (by kernel_rfl))
 f216:=Tryz.func168.trans (congrArg some (by kernel_rfl))
 f257:=Tryz.func131.trans (congrArg some (by kernel_rfl))
 f294:=Tryz.func162.trans (congrArg some (by kernel_rfl))
 f295:=Tryz.func163.trans (congrArg some (by kernel_rfl))
 f296:=Tryz.func164.trans (congrArg some (by kernel_rfl))
 f297:=Tryz.func165.trans (congrArg some (by kernel_rfl))
 f298:=Tryz.func166.trans (congrArg some (by kernel_rfl))
 f299:=Tryz.func167.trans (congrArg some (by kernel_rfl))
 f300:=Tryz.func169.trans (congrArg some (by kernel_rfl))
 f301:=Tryz.func170.trans (congrArg some (by kernel_rfl))
 f328:=Tryz.func182.trans (congrArg some (by kernel_rfl))
 f329:=Tryz.func158.trans (congrArg some (by kernel_rfl))
 f330:=Tryz.func159.trans (congrArg some (by kernel_rfl))
 f331:=Tryz.func183.trans (congrArg some (by kernel_rfl))
 f332:=Tryz.func184.trans (congrArg some (by kernel_rfl))
 f343:=Tryz.func190.trans (congrArg some (by kernel_rfl))
 t0:=Tryz.underlying0
 a0:=Tryz.isAgg0
 z0:=Tryz.sizeOf0
 v0:=Tryz.zeroValue0
 t3:=Tryz.underlying3
 a3:=Tryz.isAgg3
 z3:=Tryz.sizeOf3
 v3:=Tryz.zeroValue3
 t4:=Tryz.underlying4
 a4:=Tryz.isAgg4
 z4:=Tryz.sizeOf4
 v4:=Tryz.zeroValue4
 t5:=Tryz.underlying5
 a5:=Tryz.isAgg5
 z5:=Tryz.sizeOf5
 v5:=Tryz.zeroValue5
 t9:=Tryz.underlying9
 a9:=Tryz.isAgg9
 z9:=Tryz.sizeOf9
 v9:=Tryz.zeroValue9
 t28:=Tryz.underlying68
 a28:=Tryz.isAgg68
 z28:=Tryz.sizeOf68
 v28:=Tryz.zeroValue68
 t46:=Tryz.underlying175
 a46:=Tryz.isAgg175
 z46:=Tryz.sizeOf175
 v46:=Tryz.zeroValue175
 t51:=Tryz.underlying227
 a51:=Tryz.isAgg227
 z51:=Tryz.sizeOf227
 v51:=Tryz.zeroValue227
 t53:=Tryz.underlying229
 a53:=Tryz.isAgg229
 z53:=Tryz.sizeOf229
 v53:=Tryz.zeroValue229
 t131:=Tryz.underlying224
 a131:=Tryz.isAgg224
 z131:=Tryz.sizeOf224
 v131:=Tryz.zeroValue224
 t182:=Tryz.underlying219
 a182:=Tryz.isAgg219
 z182:=Tryz.sizeOf219
 v182:=Tryz.zeroValue219
 t183:=Tryz.underlying220
 a183:=Tryz.isAgg220
 z183:=Tryz.sizeOf220
 v183:=Tryz.zeroValue220
 t218:=Tryz.underlying247
 a218:=Tryz.isAgg247
 z218:=Tryz.sizeOf247
 v218:=Tryz.zeroValue247
 t222:=Tryz.underlying251
 a222:=Tryz.isAgg251
 z222:=Tryz.sizeOf251
 v222:=Tryz.zeroValue251
 t228:=Tryz.underlying265
 a228:=Tryz.isAgg265
 z228:=Tryz.sizeOf265
 v228:=Tryz.zeroValue265
 t229:=Tryz.underlying266
 a229:=Tryz.isAgg266
 z229:=Tryz.sizeOf266
 v229:=Tryz.zeroValue266 }
end Go.Proofs
namespace Go.Proofs.YthhfmppealmblaaGreatDoor
open Go.RowKit
theorem itoa_le (n:Int) (h0 : -9223372036854775808≤n) (h1:n≤9223372036854775807):(Lib.itoa n).length≤21:=Lib.itoa_length_le n h0 h1
structure Tabs (w:World):Prop where
 pow:Lib.TabIs Tryz.prog w "internal/strconv.uint64pow10" .u64 Lib.pow10Tab
theorem cell_size {w:World} {p:Addr} {v:Value} (h:w.cell? p=some v):p.block<w.heap.size:=by
 unfold World.cell? at h
 split at h
 ·next e=>exact (Array.getElem?_eq_some_iff.1 e).1
 ·cases h
theorem tab_below {P:Program} {w w':World} {name:String} {k:IntKind} {zs:List Int} (h:Lib.TabIs P w name k zs) (hb:Below w.heap.size w w'):Lib.TabIs P w' name k zs:=by
 unfold Lib.TabIs World.var? at *
 cases hg:P.globalNamed name with
 | none=>simp [hg] at h
 | some g =>
  simp only [hg,Option.bind_some] at h ⊢
  have hlt:g<w.heap.size:=by
   rcases Nat.lt_or_ge g w.heap.size with h' | h'
   ·exact h'
   ·rw [Array.getElem?_eq_none h'] at h;simp at h
  rw [hb.block g hlt]
  exact h
theorem Tabs.below {w w':World} (t:Tabs w) (h:Below w.heap.size w w'):Tabs w' where
 pow:=tab_below t.pow h
theorem tab_grown {P:Program} {w w':World} {name:String} {k:IntKind} {zs:List Int} {r:Nat} (h:Lib.TabIs P w name k zs) (hg:w.grownBy w' (some r)) (hr:∀ g,P.globalNamed name=some g→g≠r):Lib.TabIs P w' name k zs:=by
 unfold Lib.TabIs World.var? at *
 cases hn:P.globalNamed name with
 | none=>simp [hn] at h
 | some g =>
  simp only [hn,Option.bind_some] at h ⊢
  have hlt:g<w.heap.size:=by
   rcases Nat.lt_or_ge g w.heap.size with h' | h'
   ·exact h'
   ·rw [Array.getElem?_eq_none h'] at h;simp at h
  rw [hg.block g hlt (fun e=>hr g hn (Option.some.inj e))]
  exact h
structure TabLt (r:Nat):Prop where
 pow:0<r
theorem pow_named:Tryz.prog.globalNamed "internal/strconv.uint64pow10"=some 0:=by kernel_rfl
theorem Tabs.lt {w:World} {r:Nat} (t:Tabs w) (h:w.heap.size≤r):TabLt r where
 pow:=by
  have h1:=t.pow
  unfold Lib.TabIs World.var? at h1
  simp only [pow_named,Option.bind_some] at h1
  rcases Nat.lt_or_ge 0 w.heap.size with h' | h'
  ·omega
  ·rw [Array.getElem?_eq_none h'] at h1;simp at h1
theorem Tabs.grown {w w':World} {r:Nat} (t:Tabs w) (hr:TabLt r) (hg:w.grownBy w' (some r)):Tabs w' where
 pow:=tab_grown t.pow hg (fun g hn=>by rw [pow_named] at hn;have:=Option.some.inj hn;have:=hr.pow;omega)
theorem below_grow {B:Nat} {a w:World} (h:Below B a w) (hB:B≤w.heap.size) (k:Nat) (os:Array Obj):Below B a (Sort.grow (w.drewN k) os) :=
 h.trans ⟨rfl,rfl,rfl,by simp [Sort.grow,World.drewN],fun i hi=>by
  show (w.heap++os)[i]?=w.heap[i]?
  rw [Array.getElem?_append_left (by omega)]⟩
theorem below_drewN {B:Nat} {a w:World} (h:Below B a w) (n:Nat):Below B a (w.drewN n):=⟨h.os,h.tape,h.output,h.size,h.block⟩
theorem itoa_any (n:Int) (w:World) (h1 : -9223372036854775808≤n) (h2:n≤9223372036854775807) (t:Tabs w) :
  Calls Tryz.prog 186 #[.int .i64 n] w fun e w'=>e = .returned (.string ⟨(Lib.itoa n).toArray⟩)∧Below w.heap.size w w' :=
 (Tryz.strconv_Itoa n h1 h2 w t.pow).mono fun _ _ ⟨he,k,os,hw⟩=>⟨he,by rw [hw];exact below_grow (Below.refl _ _) (Nat.le_refl _) k os⟩
theorem formatInt_any (n:Int) (w:World) (h1 : -9223372036854775808≤n) (h2:n≤9223372036854775807) (t:Tabs w) :
  Calls Tryz.prog 174 #[.int .i64 n,.int .i64 10] w fun e w'=>e = .returned (.string ⟨(Lib.itoa n).toArray⟩)∧Below w.heap.size w w' :=
 (Tryz.strconv_FormatInt_10 n h1 h2 w t.pow).mono fun _ _ ⟨he,k,os,hw⟩=>⟨he,by rw [hw];exact below_grow (Below.refl _ _) (Nat.le_refl _) k os⟩
end Go.Proofs.YthhfmppealmblaaGreatDoor
namespace Go.Proofs.YthhfmppealmblaaGreatDoor
structure Dv where
 name:ByteArray
 lo:Int
 hi:Int
structure Rk where
 name:ByteArray
 kind:Int
 num:Int
 den:Int
 low:Int
 cnt:Int
structure Pt where
 rank:Int
 shift:Int
 lo:Int
 hi:Int
structure St where
 name:ByteArray
 div:Int
 num:Int
 den:Int
 parts:List Pt
structure Cp where
 name:ByteArray
 frm:Int
 to:Int
 shift:Int
 only:Int
 thr:Bool
structure Sp where
 ds:List Dv
 rs:List Rk
 ss:List St
 cs:List Cp
def FeetOk (n d:Int):Prop:=1≤d∧d≤15∧1≤n∧n≤64 * d∧Int.gcd n d=1
instance (n d:Int):Decidable (FeetOk n d):=by unfold FeetOk;infer_instance
def nmE (nm:ByteArray) (earlier:List ByteArray) (next:Int):Int:=if nameB (L nm)=false then 6 else if L nm∈earlier.map L then 8 else next
def dvE (d:Dv):Int:=if 0≤d.lo∧d.lo≤127∧d.lo≤d.hi∧d.hi≤127∧d.hi-d.lo≤60 then 0 else 7
def rkE (r:Rk):Int:=if 1≤r.kind∧r.kind≤4∧FeetOk r.num r.den then (if 1≤r.cnt∧r.cnt≤97∧0≤r.low∧r.low+r.cnt≤128 then 0 else 7) else 2
def stE (x:St):Int:=if FeetOk x.num x.den∧0<x.parts.length then (if x.parts.length≤12 then 0 else 3) else 2
def ptE (S:Sp) (x:St) (p:Pt):Int :=
 if 0≤p.rank∧p.rank<S.rs.length then
  match S.ds[x.div.toNat]?,S.rs[p.rank.toNat]? with
  | some d,some r=>if d.lo≤p.lo∧p.hi≤d.hi∧p.lo≤p.hi∧-96≤p.shift∧p.shift≤96 then (if r.low≤p.lo+p.shift∧p.hi+p.shift<r.low+r.cnt then 0 else 4) else 7
  | _,_=>0
 else 4
def cpE (S:Sp) (c:Cp):Int :=
 if 0≤c.frm∧c.frm<S.ds.length∧0≤c.to∧c.to<S.ds.length then
  (if (c.shift = -12∨c.shift=12∨c.shift=0∧c.frm≠c.to)∧0≤c.only∧c.only≤2∧¬ (c.thr=true∧c.only≠0) then 0 else 2)
 else 4
def errD (S:Sp) (i:Nat):Int:=match S.ds[i]? with | none=>0 | some d=>nmE d.name ((S.ds.take i).map (·.name)) (dvE d)
def errR (S:Sp) (i:Nat):Int:=match S.rs[i]? with | none=>0 | some r=>nmE r.name ((S.rs.take i).map (·.name)) (rkE r)
def errS (S:Sp) (i:Nat):Int:=match S.ss[i]? with
 | none=>0
 | some x=>if nameB (L x.name)=false then 6 else if 0≤x.div∧x.div<S.ds.length then nmE x.name (((S.ss.take i).filter fun y=>decide (y.div=x.div)).map (·.name)) (stE x) else 4
def errP (S:Sp) (x:St) (k:Nat):Int:=match x.parts[k]? with | none=>0 | some p=>ptE S x p
def errC (S:Sp) (i:Nat):Int:=match S.cs[i]? with | none=>0 | some c=>nmE c.name ((S.cs.take i).map (·.name)) (cpE S c)
def fst0 (f:Nat→Int) (n:Nat):Option Nat:=(List.range n).find? fun i=>decide (f i≠0)
theorem fst0_none {f:Nat→Int} {n:Nat}:fst0 f n=none ↔ ∀ i,i<n→f i=0:=by
 unfold fst0
 rw [List.find?_eq_none]
 simp
theorem fst0_some {f:Nat→Int} {n i:Nat} (h1:i<n) (h2:f i≠0) (h3:∀ j,j<i→f j=0):fst0 f n=some i:=by
 unfold fst0
 rw [List.find?_range_eq_some]
 exact ⟨by simpa using h2,by simpa using h1,fun j hj=>by simpa using h3 j hj⟩
theorem fst0_is {f:Nat→Int} {n i:Nat} (h:fst0 f n=some i):i<n∧f i≠0∧∀ j,j<i→f j=0:=by
 unfold fst0 at h
 rw [List.find?_range_eq_some] at h
 exact ⟨by simpa using h.2.1,by simpa using h.1,fun j hj=>by simpa using h.2.2 j hj⟩
def stopE (S:Sp) (i:Nat):Int × Int:=match S.ss[i]? with
 | none=>(0,0)
 | some x=>if errS S i≠0 then (0,errS S i) else match fst0 (errP S x) x.parts.length with
  | none=>(0,0)
  | some k=>((k:Int)+1,errP S x k)
def checkP (S:Sp):(Int × Int × Int) × Int :=
 if 6<S.ds.length∨40<S.rs.length∨80<S.ss.length∨24<S.cs.length then ((0,0,0),3) else
 match fst0 (errD S) S.ds.length with
 | some i=>((1,i,0),errD S i)
 | none=>match fst0 (errR S) S.rs.length with
  | some i=>((2,i,0),errR S i)
  | none=>match fst0 (fun i=>(stopE S i).2) S.ss.length with
   | some i=>((3,i,(stopE S i).1),(stopE S i).2)
   | none=>match fst0 (errC S) S.cs.length with
    | some i=>((4,i,0),errC S i)
    | none=>((0,0,0),0)
end Go.Proofs.YthhfmppealmblaaGreatDoor
namespace Go.Proofs.YthhfmppealmblaaGreatDoor
open Go.RowKit
def Blk (W:World) (B:Nat) (t:TypeId) (cs:Array Value):Prop:=W.heap[B]?=some (.cells cs t (0,0))
theorem Blk.lt {W:World} {B:Nat} {t:TypeId} {cs:Array Value} (h:Blk W B t cs):B<W.heap.size:=(Array.getElem?_eq_some_iff.1 h).1
theorem Blk.cell {W:World} {B:Nat} {t:TypeId} {cs:Array Value} (h:Blk W B t cs) (i:Nat):W.cell? ⟨B,i,none⟩=cs[i]?:=by
 simp [World.cell?,show W.heap[B]?=_ from h]
theorem Blk.frozen {W:World} {B:Nat} {t:TypeId} {cs:Array Value} (h:Blk W B t cs) (i:Nat):W.frozen? ⟨B,i,none⟩=false:=by
 simp [World.frozen?,show W.heap[B]?=_ from h]
theorem Blk.new (W:World) (t:TypeId) (cs:Array Value):Blk (W.alloc (.cells cs t)) W.heap.size t cs:=World.alloc_heap_new W _
theorem Blk.alloc {W:World} {B:Nat} {t:TypeId} {cs:Array Value} (h:Blk W B t cs) (o:Obj):Blk (W.alloc o) B t cs:=(Below.heap_alloc W o B h.lt).trans h
theorem Blk.below {W W':World} {B:Nat} {t:TypeId} {cs:Array Value} (h:Blk W B t cs) (hb:Below W.heap.size W W'):Blk W' B t cs:=(hb.block B h.lt).trans h
theorem Blk.other {W:World} {B:Nat} {t:TypeId} {cs:Array Value} (h:Blk W B t cs) (a:Addr) (v:Value) (hne:B≠a.block):Blk (W.setCell a v) B t cs:=(Below.heap_setCell W a v B hne).trans h
theorem Blk.set {W:World} {B:Nat} {t:TypeId} {cs:Array Value} (h:Blk W B t cs) (i:Nat) (v:Value):Blk (W.setCell ⟨B,i,none⟩ v) B t (cs.setIfInBounds i v):=by
 have h':W.heap[B]'h.lt = .cells cs t (0,0):=(Array.getElem?_eq_some_iff.1 h).2
 show (W.heap.modify B _)[B]?=_
 rw [Array.getElem?_eq_getElem (by simpa using h.lt),Array.getElem_modify_self,h']
 rfl
theorem Blk.drewN {W:World} {B:Nat} {t:TypeId} {cs:Array Value} (h:Blk W B t cs) (n:Nat):Blk (W.drewN n) B t cs:=h
end Go.Proofs.YthhfmppealmblaaGreatDoor
namespace Go.Proofs.YthhfmppealmblaaGreatDoor
open Go.RowKit
theorem ret_tup {a b:Value} {x y:ByteArray} (h:x=y) (h2:a=b):Ending.returned (.tuple #[.string x,a]) = .returned (.tuple #[.string y,b]):=by rw [h,h2]
theorem below_step {w a b:World} (h:Below w.heap.size w a) (hb:Below a.heap.size a b):Below w.heap.size w b:=h.trans (hb.mono h.size)
end Go.Proofs.YthhfmppealmblaaGreatDoor
namespace Go.Proofs.YthhfmppealmblaaGreatDoor
open Go.RowKit
def ARd (w:World) (v:Value) (k:Nat) (rows:List (List Value)):Prop:=∃ a c,v = .slice a rows.length c ∧
 ∀ i (h:i<rows.length),∃ b o,a=some ⟨b,o,none⟩∧b<w.heap.size∧∀ j u,rows[i][j]?=some u→w.cell? ⟨b,o+i * k+j,none⟩=some u
theorem ARd.later {w w':World} {v:Value} {k:Nat} {rows:List (List Value)} (h:ARd w v k rows) (hb:Below w.heap.size w w'):ARd w' v k rows:=by
 obtain ⟨a,c,rfl,hr⟩:=h
 refine ⟨a,c,rfl,fun i hi=>?_⟩
 obtain ⟨b,o,ha,hlt,hc⟩:=hr i hi
 exact ⟨b,o,ha,Nat.lt_of_lt_of_le hlt hb.size,fun j u hj=>(hb.cell hlt).trans (hc j u hj)⟩
def dvC (d:Dv):List Value:=[.string d.name,.int .i64 d.lo,.int .i64 d.hi]
def rkC (r:Rk):List Value:=[.string r.name,.int .i64 r.kind,.int .i64 r.num,.int .i64 r.den,.int .i64 r.low,.int .i64 r.cnt]
def ptC (p:Pt):List Value:=[.int .i64 p.rank,.int .i64 p.shift,.int .i64 p.lo,.int .i64 p.hi]
def stC (x:St) (v:Value):List Value:=[.string x.name,.int .i64 x.div,.int .i64 x.num,.int .i64 x.den,v]
def cpC (c:Cp):List Value:=[.string c.name,.int .i64 c.frm,.int .i64 c.to,.int .i64 c.shift,.int .i64 c.only,.bool c.thr]
structure SpOk (S:Sp):Prop where
 d:S.ds.length≤1000
 r:S.rs.length≤1000
 s:S.ss.length≤1000
 c:S.cs.length≤1000
 dn:∀ x∈S.ds,x.name.size≤1000
 rn:∀ x∈S.rs,x.name.size≤1000
 sn:∀ x∈S.ss,x.name.size≤1000
 cn:∀ x∈S.cs,x.name.size≤1000
 sp:∀ x∈S.ss,x.parts.length≤1000
def i64 (n:Int):Prop:=-9223372036854775808≤n∧n≤9223372036854775807
structure SpInt (S:Sp):Prop where
 d:∀ x∈S.ds,i64 x.lo∧i64 x.hi
 r:∀ x∈S.rs,i64 x.kind∧i64 x.num∧i64 x.den∧i64 x.low∧i64 x.cnt
 s:∀ x∈S.ss,i64 x.div∧i64 x.num∧i64 x.den
 p:∀ x∈S.ss,∀ p∈x.parts,i64 p.rank∧i64 p.shift∧i64 p.lo∧i64 p.hi
 c:∀ x∈S.cs,i64 x.frm∧i64 x.to∧i64 x.shift∧i64 x.only
structure SpRd (w:World) (v1 v2 v3 v4:Value) (f:Nat→Value) (S:Sp):Prop where
 d:ARd w v1 3 (S.ds.map dvC)
 r:ARd w v2 6 (S.rs.map rkC)
 s:ARd w v3 5 (S.ss.mapIdx fun i x=>stC x (f i))
 c:ARd w v4 6 (S.cs.map cpC)
 p:∀ i (h:i<S.ss.length),ARd w (f i) 4 (S.ss[i].parts.map ptC)
theorem SpRd.later {w w':World} {v1 v2 v3 v4:Value} {f:Nat→Value} {S:Sp} (h:SpRd w v1 v2 v3 v4 f S) (hb:Below w.heap.size w w'):SpRd w' v1 v2 v3 v4 f S :=
 ⟨h.d.later hb,h.r.later hb,h.s.later hb,h.c.later hb,fun i hi=>(h.p i hi).later hb⟩
theorem ARd.at {w:World} {v:Value} {k:Nat} {rows:List (List Value)} (h:ARd w v k rows) (i:Nat) (hi:i<rows.length):∃ b o c,v = .slice (some ⟨b,o,none⟩) rows.length c∧b<w.heap.size ∧
  ∀ j u,rows[i][j]?=some u→w.cell? ⟨b,o+i * k+j,none⟩=some u:=by
 obtain ⟨a,c,rfl,hr⟩:=h
 obtain ⟨b,o,rfl,hlt,hc⟩:=hr i hi
 exact ⟨b,o,c,rfl,hlt,hc⟩
theorem SpRd.dAt {w:World} {v1 v2 v3 v4:Value} {f:Nat→Value} {S:Sp} (h:SpRd w v1 v2 v3 v4 f S) (i:Nat) (hi:i<S.ds.length):∃ b o c,v1 = .slice (some ⟨b,o,none⟩) S.ds.length c∧b<w.heap.size ∧
  w.cell? ⟨b,o+i * 3,none⟩=some (.string S.ds[i].name)∧w.cell? ⟨b,o+i * 3+1,none⟩=some (.int .i64 S.ds[i].lo)∧w.cell? ⟨b,o+i * 3+2,none⟩=some (.int .i64 S.ds[i].hi):=by
 obtain ⟨b,o,c,e,hlt,hc⟩:=h.d.at i (by simpa using hi)
 rw [List.getElem_map] at hc
 exact ⟨b,o,c,by simpa using e,hlt,hc 0 _ rfl,hc 1 _ rfl,hc 2 _ rfl⟩
theorem SpRd.rAt {w:World} {v1 v2 v3 v4:Value} {f:Nat→Value} {S:Sp} (h:SpRd w v1 v2 v3 v4 f S) (i:Nat) (hi:i<S.rs.length):∃ b o c,v2 = .slice (some ⟨b,o,none⟩) S.rs.length c∧b<w.heap.size ∧
  w.cell? ⟨b,o+i * 6,none⟩=some (.string S.rs[i].name)∧w.cell? ⟨b,o+i * 6+1,none⟩=some (.int .i64 S.rs[i].kind)∧w.cell? ⟨b,o+i * 6+2,none⟩=some (.int .i64 S.rs[i].num)∧w.cell? ⟨b,o+i * 6+3,none⟩=some (.int .i64 S.rs[i].den)∧w.cell? ⟨b,o+i * 6+4,none⟩=some (.int .i64 S.rs[i].low)∧w.cell? ⟨b,o+i * 6+5,none⟩=some (.int .i64 S.rs[i].cnt):=by
 obtain ⟨b,o,c,e,hlt,hc⟩:=h.r.at i (by simpa using hi)
 rw [List.getElem_map] at hc
 exact ⟨b,o,c,by simpa using e,hlt,hc 0 _ rfl,hc 1 _ rfl,hc 2 _ rfl,hc 3 _ rfl,hc 4 _ rfl,hc 5 _ rfl⟩
theorem SpRd.sAt {w:World} {v1 v2 v3 v4:Value} {f:Nat→Value} {S:Sp} (h:SpRd w v1 v2 v3 v4 f S) (i:Nat) (hi:i<S.ss.length):∃ b o c,v3 = .slice (some ⟨b,o,none⟩) S.ss.length c∧b<w.heap.size ∧
  w.cell? ⟨b,o+i * 5,none⟩=some (.string S.ss[i].name)∧w.cell? ⟨b,o+i * 5+1,none⟩=some (.int .i64 S.ss[i].div)∧w.cell? ⟨b,o+i * 5+2,none⟩=some (.int .i64 S.ss[i].num)∧w.cell? ⟨b,o+i * 5+3,none⟩=some (.int .i64 S.ss[i].den)∧w.cell? ⟨b,o+i * 5+4,none⟩=some (f i):=by
 obtain ⟨b,o,c,e,hlt,hc⟩:=h.s.at i (by simpa using hi)
 rw [List.getElem_mapIdx] at hc
 exact ⟨b,o,c,by simpa using e,hlt,hc 0 _ rfl,hc 1 _ rfl,hc 2 _ rfl,hc 3 _ rfl,hc 4 _ rfl⟩
theorem SpRd.cAt {w:World} {v1 v2 v3 v4:Value} {f:Nat→Value} {S:Sp} (h:SpRd w v1 v2 v3 v4 f S) (i:Nat) (hi:i<S.cs.length):∃ b o c,v4 = .slice (some ⟨b,o,none⟩) S.cs.length c∧b<w.heap.size ∧
  w.cell? ⟨b,o+i * 6,none⟩=some (.string S.cs[i].name)∧w.cell? ⟨b,o+i * 6+1,none⟩=some (.int .i64 S.cs[i].frm)∧w.cell? ⟨b,o+i * 6+2,none⟩=some (.int .i64 S.cs[i].to)∧w.cell? ⟨b,o+i * 6+3,none⟩=some (.int .i64 S.cs[i].shift)∧w.cell? ⟨b,o+i * 6+4,none⟩=some (.int .i64 S.cs[i].only)∧w.cell? ⟨b,o+i * 6+5,none⟩=some (.bool S.cs[i].thr):=by
 obtain ⟨b,o,c,e,hlt,hc⟩:=h.c.at i (by simpa using hi)
 rw [List.getElem_map] at hc
 exact ⟨b,o,c,by simpa using e,hlt,hc 0 _ rfl,hc 1 _ rfl,hc 2 _ rfl,hc 3 _ rfl,hc 4 _ rfl,hc 5 _ rfl⟩
theorem SpRd.pAt {w:World} {v1 v2 v3 v4:Value} {f:Nat→Value} {S:Sp} (h:SpRd w v1 v2 v3 v4 f S) (i:Nat) (hi:i<S.ss.length) (k:Nat) (hk:k<S.ss[i].parts.length):∃ b o c,f i = .slice (some ⟨b,o,none⟩) S.ss[i].parts.length c∧b<w.heap.size ∧
  w.cell? ⟨b,o+k * 4,none⟩=some (.int .i64 S.ss[i].parts[k].rank)∧w.cell? ⟨b,o+k * 4+1,none⟩=some (.int .i64 S.ss[i].parts[k].shift)∧w.cell? ⟨b,o+k * 4+2,none⟩=some (.int .i64 S.ss[i].parts[k].lo)∧w.cell? ⟨b,o+k * 4+3,none⟩=some (.int .i64 S.ss[i].parts[k].hi):=by
 obtain ⟨b,o,c,e,hlt,hc⟩:=(h.p i hi).at k (by simpa using hk)
 rw [List.getElem_map] at hc
 exact ⟨b,o,c,by simpa using e,hlt,hc 0 _ rfl,hc 1 _ rfl,hc 2 _ rfl,hc 3 _ rfl⟩
theorem ARd.form {w:World} {v:Value} {k:Nat} {rows:List (List Value)} (h:ARd w v k rows):∃ a c,v = .slice a rows.length c:=by
 obtain ⟨a,c,e,_⟩:=h
 exact ⟨a,c,e⟩
theorem SpRd.forms {w:World} {v1 v2 v3 v4:Value} {f:Nat→Value} {S:Sp} (h:SpRd w v1 v2 v3 v4 f S):(∃ a c,v1 = .slice a S.ds.length c)∧(∃ a c,v2 = .slice a S.rs.length c)∧(∃ a c,v3 = .slice a S.ss.length c)∧(∃ a c,v4 = .slice a S.cs.length c):=by
 obtain ⟨a1,c1,e1⟩:=h.d.form
 obtain ⟨a2,c2,e2⟩:=h.r.form
 obtain ⟨a3,c3,e3⟩:=h.s.form
 obtain ⟨a4,c4,e4⟩:=h.c.form
 exact ⟨⟨a1,c1,by simpa using e1⟩,⟨a2,c2,by simpa using e2⟩,⟨a3,c3,by simpa using e3⟩,⟨a4,c4,by simpa using e4⟩⟩
theorem Blk.four {W:World} {B:Nat} {t:TypeId} {a b c d:Value} (h:Blk W B t #[a,b,c,d]):W.cell? ⟨B,0,none⟩=some a∧W.cell? ⟨B,1,none⟩=some b∧W.cell? ⟨B,2,none⟩=some c∧W.cell? ⟨B,3,none⟩=some d :=
 ⟨h.cell 0,h.cell 1,h.cell 2,h.cell 3⟩
end Go.Proofs.YthhfmppealmblaaGreatDoor
namespace Go.Proofs.YthhfmppealmblaaGreatDoor
open Go.ChangeShapes Go.WideShapes Go.RowKit Go.Deep
theorem spot_none {w:World} {a:Addr} {v:Value} (h:w.cell? a=some v):a=⟨a.block,a.off,none⟩:=by
 obtain ⟨b,o,s⟩:=a
 cases s with
 | none=>rfl
 | some x =>
  unfold World.cell? at h
  split at h
  ·simp at h
  ·cases h
theorem add_at (b o n:Nat):(⟨b,o,none⟩:Addr).add n=⟨b,o+n,none⟩:=by
 unfold Addr.add
 split
 ·next h=>subst h;rfl
 ·rfl
theorem wf_i64 {a:Int} (h:(Lit.int .i64 a).wf=true):i64 a:=by
 have h2:IntKind.i64.min≤a∧a≤IntKind.i64.max:=by simpa only [Lit.wf,Bool.and_eq_true,decide_eq_true_eq] using h
 have e1:IntKind.i64.min = -9223372036854775808:=rfl
 have e2:IntKind.i64.max=9223372036854775807:=rfl
 unfold i64
 omega
section
variable {H : Type} {enc : TypeId × Value → H} {P : Program} {w : World} {base : Nat} {spare : Nat → Bool} {held : Bool}
theorem fld {t:TypeId} {fs:Array Field} {n:Nat} {cs:List Value} {y:DataW H × List MemPlace} (ht:P.underlying t=some (.struct fs)) (h:DataW.trod enc P w base spare held n t cs=some y) (i:Nat) (f:Field) (hf:fs[i]?=some f) :
  ∃ (m:Nat) (z:DataW H × List MemPlace),DataW.trod enc P w base spare held m f.type ((cs.drop f.offset).take (P.cellsOf f.type))=some z:=by
 obtain ⟨xs,m,_,_,_,hl,hx⟩:=DataW.trod_struct ht h
 have hi:=(Array.getElem?_eq_some_iff.1 hf).1
 exact ⟨m,_,(hx i f hf).trans (List.getElem?_eq_getElem (by omega))⟩
theorem fld_int {t:TypeId} {fs:Array Field} {n:Nat} {cs:List Value} {y:DataW H × List MemPlace} (ht:P.underlying t=some (.struct fs)) (h:DataW.trod enc P w base spare held n t cs=some y) (i:Nat) (f:Field) (hf:fs[i]?=some f)
  (hu:P.underlying f.type=some (.int .i64)):∃ z:Int,cs[f.offset]?=some (.int .i64 z)∧i64 z:=by
 obtain ⟨m,z,hz⟩:=fld ht h i f hf
 obtain ⟨k,hk,_,hw⟩:=DataW.trod_int hu hz
 refine ⟨k,?_,wf_i64 hw⟩
 have h0:((cs.drop f.offset).take (P.cellsOf f.type))[0]?=some (.int .i64 k):=by rw [hk];rfl
 rw [List.getElem?_take] at h0
 split at h0
 ·rw [List.getElem?_drop,Nat.add_zero] at h0;exact h0
 ·cases h0
theorem fld_string {t:TypeId} {fs:Array Field} {n:Nat} {cs:List Value} {y:DataW H × List MemPlace} (ht:P.underlying t=some (.struct fs)) (h:DataW.trod enc P w base spare held n t cs=some y) (i:Nat) (f:Field) (hf:fs[i]?=some f)
  (hu:P.underlying f.type=some .string):∃ z:ByteArray,cs[f.offset]?=some (.string z):=by
 obtain ⟨m,z,hz⟩:=fld ht h i f hf
 obtain ⟨k,hk,_,hw⟩:=DataW.trod_string hu hz
 refine ⟨k,?_⟩
 have h0:((cs.drop f.offset).take (P.cellsOf f.type))[0]?=some (.string k):=by rw [hk];rfl
 rw [List.getElem?_take] at h0
 split at h0
 ·rw [List.getElem?_drop,Nat.add_zero] at h0;exact h0
 ·cases h0
theorem fld_bool {t:TypeId} {fs:Array Field} {n:Nat} {cs:List Value} {y:DataW H × List MemPlace} (ht:P.underlying t=some (.struct fs)) (h:DataW.trod enc P w base spare held n t cs=some y) (i:Nat) (f:Field) (hf:fs[i]?=some f)
  (hu:P.underlying f.type=some .bool):∃ z:Bool,cs[f.offset]?=some (.bool z):=by
 obtain ⟨m,z,hz⟩:=fld ht h i f hf
 obtain ⟨k,hk,_⟩:=DataW.trod_bool hu hz
 refine ⟨k,?_⟩
 have h0:((cs.drop f.offset).take (P.cellsOf f.type))[0]?=some (.bool k):=by rw [hk];rfl
 rw [List.getElem?_take] at h0
 split at h0
 ·rw [List.getElem?_drop,Nat.add_zero] at h0;exact h0
 ·cases h0
theorem fld_two {t:TypeId} {fs gs:Array Field} {n:Nat} {cs:List Value} {y:DataW H × List MemPlace} (ht:P.underlying t=some (.struct fs)) (h:DataW.trod enc P w base spare held n t cs=some y) (i:Nat) (f f0 f1:Field) (hf:fs[i]?=some f)
  (hu:P.underlying f.type=some (.struct gs)) (h0:gs[0]?=some f0) (h1:gs[1]?=some f1) (u0:P.underlying f0.type=some (.int .i64)) (u1:P.underlying f1.type=some (.int .i64)) :
  ∃ a b:Int,cs[f.offset+f0.offset]?=some (.int .i64 a)∧cs[f.offset+f1.offset]?=some (.int .i64 b)∧i64 a∧i64 b:=by
 obtain ⟨m,z,hz⟩:=fld ht h i f hf
 obtain ⟨a,ha,wa⟩:=fld_int hu hz 0 f0 h0 u0
 obtain ⟨b,hb,wb⟩:=fld_int hu hz 1 f1 h1 u1
 refine ⟨a,b,?_,?_,wa,wb⟩
 ·rw [List.getElem?_take] at ha
  split at ha
  ·rw [List.getElem?_drop] at ha;exact ha
  ·cases ha
 ·rw [List.getElem?_take] at hb
  split at hb
  ·rw [List.getElem?_drop] at hb;exact hb
  ·cases hb
theorem len_struct {t:TypeId} {fs:Array Field} {n:Nat} {cs:List Value} {y:DataW H × List MemPlace} (ht:P.underlying t=some (.struct fs)) (h:DataW.trod enc P w base spare held n t cs=some y):cs.length=P.cellsOf t:=by
 obtain ⟨xs,m,_,_,hl,_⟩:=DataW.trod_struct ht h
 exact hl
theorem slice_rows {α:Type} {t e:TypeId} {fuel k:Nat} {cs:List Value} {x:DataW H × List MemPlace} (cells:α→List Value) (Good:α→Prop) (ht:P.underlying t=some (.slice e)) (hC:P.cellsOf e=k) (hk:0<k)
  (each:∀ n cs' y,DataW.trod enc P w base spare held n e cs'=some y→∃ r:α,cs'=cells r∧Good r) (h:DataW.trod enc P w base spare held fuel t cs=some x) :
  ∃ (v:Value) (rows:List α),cs=[v]∧ARd w v k (rows.map cells)∧∀ r∈rows,Good r:=by
 rcases open_slice ht h with ⟨hc,_⟩ | ⟨a,len,cap,m,n,D,Pl,hc,_,hlc,_,hm,_,hi⟩
 ·exact ⟨_,[],hc,⟨none,0,rfl,fun i h=>absurd h (Nat.not_lt_zero i)⟩,fun r h=>by cases h⟩
 ·rw [hC] at hi
  have hml:len≤m:=by rw [hm];split <;> omega
  have pick:∀ i:Fin len,∃ r:α,w.cells? base (a.add (i.val * k)) k=some (cells r)∧Good r:=fun i=>by
   obtain ⟨cs',h1,h2⟩:=hi i.val (by omega)
   obtain ⟨r,hr,hg⟩:=each _ _ _ h2
   exact ⟨r,by rw [h1,hr],hg⟩
  obtain ⟨rows,hlen,hrow⟩:∃ rows:List α,rows.length=len∧∀ i (h:i<rows.length),w.cells? base (a.add (i * k)) k=some (cells rows[i])∧Good rows[i]:=by
   refine ⟨List.ofFn fun i:Fin len=>Classical.choose (pick i),by simp,fun i h=>?_⟩
   have hil:i<len:=by simpa using h
   simp only [List.getElem_ofFn]
   exact Classical.choose_spec (pick ⟨i,hil⟩)
  refine ⟨_,rows,hc,⟨some a,cap,by simp [hlen],fun i hi'=>?_⟩,fun r hr=>?_⟩
  ·have hil:i<rows.length:=by simpa using hi'
   obtain ⟨_,hl,hcell⟩:=World.cells?_some (hrow i hil).1
   obtain ⟨_,hl0,hcell0⟩:=World.cells?_some (hrow 0 (by omega)).1
   have h1:=hcell0 0 hk
   rw [Nat.zero_mul] at h1
   obtain ⟨u0,hu0⟩:∃ u,(cells rows[0])[0]?=some u:=⟨_,List.getElem?_eq_getElem (show 0<(cells rows[0]).length by omega)⟩
   rw [hu0] at h1
   have h1:w.cell? a=some u0:=h1
   have hs:=spot_none h1
   refine ⟨a.block,a.off,by rw [← hs],cell_size h1,fun j u hj=>?_⟩
   rw [List.getElem_map] at hj
   have hjk:j<k:=by
    have:=(List.getElem?_eq_some_iff.1 hj).1
    omega
   have h2:=hcell j hjk
   rw [hs,add_at,add_at] at h2
   rw [h2]
   exact hj
  ·obtain ⟨i,hi',rfl⟩:=List.mem_iff_getElem.1 hr
   exact (hrow i hi').2
end
theorem list3 {cs:List Value} {a b c:Value} (hl:cs.length=3) (h0:cs[0]?=some a) (h1:cs[1]?=some b) (h2:cs[2]?=some c):cs=[a,b,c]:=by
 match cs,hl with
 | [_,_,_],_=>simp at h0 h1 h2;rw [h0,h1,h2]
theorem list4 {cs:List Value} {a b c d:Value} (hl:cs.length=4) (h0:cs[0]?=some a) (h1:cs[1]?=some b) (h2:cs[2]?=some c) (h3:cs[3]?=some d):cs=[a,b,c,d]:=by
 match cs,hl with
 | [_,_,_,_],_=>simp at h0 h1 h2 h3;rw [h0,h1,h2,h3]
theorem list5 {cs:List Value} {a b c d e:Value} (hl:cs.length=5) (h0:cs[0]?=some a) (h1:cs[1]?=some b) (h2:cs[2]?=some c) (h3:cs[3]?=some d) (h4:cs[4]?=some e):cs=[a,b,c,d,e]:=by
 match cs,hl with
 | [_,_,_,_,_],_=>simp at h0 h1 h2 h3 h4;rw [h0,h1,h2,h3,h4]
theorem list6 {cs:List Value} {a b c d e f:Value} (hl:cs.length=6) (h0:cs[0]?=some a) (h1:cs[1]?=some b) (h2:cs[2]?=some c) (h3:cs[3]?=some d) (h4:cs[4]?=some e) (h5:cs[5]?=some f):cs=[a,b,c,d,e,f]:=by
 match cs,hl with
 | [_,_,_,_,_,_],_=>simp at h0 h1 h2 h3 h4 h5;rw [h0,h1,h2,h3,h4,h5]
section
variable {H : Type} {enc : TypeId × Value → H} {W : World} {base : Nat} {spare : Nat → Bool} {held : Bool}
theorem cO_dv:Tryz.prog.cellsOf 84=3:=by kernel_rfl
theorem cO_rk:Tryz.prog.cellsOf 107=6:=by kernel_rfl
theorem cO_st:Tryz.prog.cellsOf 151=5:=by kernel_rfl
theorem cO_pt:Tryz.prog.cellsOf 148=4:=by kernel_rfl
theorem cO_cp:Tryz.prog.cellsOf 153=6:=by kernel_rfl
theorem dv_open (n:Nat) (cs:List Value) (y:DataW H × List MemPlace) (h:DataW.trod enc Tryz.prog W base spare held n 84 cs=some y):∃ d:Dv,cs=dvC d∧i64 d.lo∧i64 d.hi:=by
 have hl:=(len_struct Tryz.underlying84 h).trans cO_dv
 obtain ⟨a,ha⟩:=fld_string Tryz.underlying84 h 0 _ rfl Tryz.underlying9
 obtain ⟨b,hb,wb⟩:=fld_int Tryz.underlying84 h 1 _ rfl Tryz.underlying3
 obtain ⟨c,hc,wc⟩:=fld_int Tryz.underlying84 h 2 _ rfl Tryz.underlying3
 exact ⟨⟨a,b,c⟩,list3 hl ha hb hc,wb,wc⟩
theorem pt_open (n:Nat) (cs:List Value) (y:DataW H × List MemPlace) (h:DataW.trod enc Tryz.prog W base spare held n 148 cs=some y):∃ p:Pt,cs=ptC p∧i64 p.rank∧i64 p.shift∧i64 p.lo∧i64 p.hi:=by
 have hl:=(len_struct Tryz.underlying148 h).trans cO_pt
 obtain ⟨a,ha,wa⟩:=fld_int Tryz.underlying148 h 0 _ rfl Tryz.underlying3
 obtain ⟨b,hb,wb⟩:=fld_int Tryz.underlying148 h 1 _ rfl Tryz.underlying3
 obtain ⟨c,hc,wc⟩:=fld_int Tryz.underlying148 h 2 _ rfl Tryz.underlying3
 obtain ⟨d,hd,wd⟩:=fld_int Tryz.underlying148 h 3 _ rfl Tryz.underlying3
 exact ⟨⟨a,b,c,d⟩,list4 hl ha hb hc hd,wa,wb,wc,wd⟩
theorem rk_open (n:Nat) (cs:List Value) (y:DataW H × List MemPlace) (h:DataW.trod enc Tryz.prog W base spare held n 107 cs=some y):∃ r:Rk,cs=rkC r∧i64 r.kind∧i64 r.num∧i64 r.den∧i64 r.low∧i64 r.cnt:=by
 have hl:=(len_struct Tryz.underlying107 h).trans cO_rk
 obtain ⟨a,ha⟩:=fld_string Tryz.underlying107 h 0 _ rfl Tryz.underlying9
 obtain ⟨b,hb,wb⟩:=fld_int Tryz.underlying107 h 1 _ rfl Tryz.underlying3
 obtain ⟨c,d,hc,hd,wc,wd⟩:=fld_two Tryz.underlying107 h 2 _ _ _ rfl Tryz.underlying105 rfl rfl Tryz.underlying3 Tryz.underlying3
 obtain ⟨e,he,we⟩:=fld_int Tryz.underlying107 h 3 _ rfl Tryz.underlying3
 obtain ⟨f,hf,wf⟩:=fld_int Tryz.underlying107 h 4 _ rfl Tryz.underlying3
 exact ⟨⟨a,b,c,d,e,f⟩,list6 hl ha hb hc hd he hf,wb,wc,wd,we,wf⟩
theorem cp_open (n:Nat) (cs:List Value) (y:DataW H × List MemPlace) (h:DataW.trod enc Tryz.prog W base spare held n 153 cs=some y):∃ r:Cp,cs=cpC r∧i64 r.frm∧i64 r.to∧i64 r.shift∧i64 r.only:=by
 have hl:=(len_struct Tryz.underlying153 h).trans cO_cp
 obtain ⟨a,ha⟩:=fld_string Tryz.underlying153 h 0 _ rfl Tryz.underlying9
 obtain ⟨b,hb,wb⟩:=fld_int Tryz.underlying153 h 1 _ rfl Tryz.underlying3
 obtain ⟨c,hc,wc⟩:=fld_int Tryz.underlying153 h 2 _ rfl Tryz.underlying3
 obtain ⟨d,hd,wd⟩:=fld_int Tryz.underlying153 h 3 _ rfl Tryz.underlying3
 obtain ⟨e,he,we⟩:=fld_int Tryz.underlying153 h 4 _ rfl Tryz.underlying3
 obtain ⟨f,hf⟩:=fld_bool Tryz.underlying153 h 5 _ rfl Tryz.underlying4
 exact ⟨⟨a,b,c,d,e,f⟩,list6 hl ha hb hc hd he hf,wb,wc,wd,we⟩
theorem st_open (n:Nat) (cs:List Value) (y:DataW H × List MemPlace) (h:DataW.trod enc Tryz.prog W base spare held n 151 cs=some y) :
  ∃ r:St × Value,cs=stC r.1 r.2∧i64 r.1.div∧i64 r.1.num∧i64 r.1.den∧ARd W r.2 4 (r.1.parts.map ptC)∧∀ p∈r.1.parts,i64 p.rank∧i64 p.shift∧i64 p.lo∧i64 p.hi:=by
 have hl:=(len_struct Tryz.underlying151 h).trans cO_st
 obtain ⟨a,ha⟩:=fld_string Tryz.underlying151 h 0 _ rfl Tryz.underlying9
 obtain ⟨b,hb,wb⟩:=fld_int Tryz.underlying151 h 1 _ rfl Tryz.underlying3
 obtain ⟨c,d,hc,hd,wc,wd⟩:=fld_two Tryz.underlying151 h 2 _ _ _ rfl Tryz.underlying105 rfl rfl Tryz.underlying3 Tryz.underlying3
 obtain ⟨m,z,hz⟩:=fld Tryz.underlying151 h 3 _ rfl
 obtain ⟨v,ps,hv,hps,hg⟩:=slice_rows ptC (fun p=>i64 p.rank∧i64 p.shift∧i64 p.lo∧i64 p.hi) Tryz.underlying149 cO_pt (by omega) pt_open hz
 have h4:cs[4]?=some v:=by
  have h0:=congrArg (fun l=>l[0]?) hv
  simp only [List.getElem?_take] at h0
  split at h0
  ·rw [List.getElem?_drop] at h0;exact h0
  ·cases h0
 exact ⟨(⟨a,b,c,d,ps⟩,v),list5 hl ha hb hc hd h4,wb,wc,wd,hps,hg⟩
set_option maxRecDepth 100000 in
theorem spec_open {b0:Nat} {r:Reach} {v:Value} {d:DataW H} {p:List MemPlace} (hv:Value.okWide Tryz.prog W r b0 27 v) (h:DataW.Trod enc Tryz.prog W base spare held 27 v d p) :
  ∃ (v1 v2 v3 v4:Value) (S:Sp) (f:Nat→Value),v = .agg #[v1,v2,v3,v4]∧SpRd W v1 v2 v3 v4 f S∧SpInt S:=by
 obtain ⟨v1,v2,v3,v4,y1,y2,y3,y4,n,rfl,_,_,e1,e2,e3,e4⟩:=Go.Joins.open_agg4 Tryz.underlying27 (by kernel_rfl) (by kernel_rfl) hv h
 obtain ⟨u1,ds,h1,r1,g1⟩:=slice_rows dvC (fun d=>i64 d.lo∧i64 d.hi) Tryz.underlying22 cO_dv (by omega) dv_open e1
 obtain ⟨u2,rs,h2,r2,g2⟩:=slice_rows rkC (fun r=>i64 r.kind∧i64 r.num∧i64 r.den∧i64 r.low∧i64 r.cnt) Tryz.underlying23 cO_rk (by omega) rk_open e2
 obtain ⟨u3,ss,h3,r3,g3⟩:=slice_rows (fun r:St × Value=>stC r.1 r.2) (fun r=>i64 r.1.div∧i64 r.1.num∧i64 r.1.den∧ARd W r.2 4 (r.1.parts.map ptC)∧∀ p∈r.1.parts,i64 p.rank∧i64 p.shift∧i64 p.lo∧i64 p.hi) Tryz.underlying24 cO_st (by omega) st_open e3
 obtain ⟨u4,cps,h4,r4,g4⟩:=slice_rows cpC (fun r=>i64 r.frm∧i64 r.to∧i64 r.shift∧i64 r.only) Tryz.underlying25 cO_cp (by omega) cp_open e4
 obtain rfl:v1=u1:=by simpa using h1
 obtain rfl:v2=u2:=by simpa using h2
 obtain rfl:v3=u3:=by simpa using h3
 obtain rfl:v4=u4:=by simpa using h4
 refine ⟨v1,v2,v3,v4,⟨ds,rs,ss.map (fun r=>r.1),cps⟩,fun i=>(ss.map (fun r=>r.2)).getD i (.int .i64 0),rfl,⟨r1,r2,?_,r4,?_⟩,?_⟩
 ·have e:((ss.map (fun r:St × Value=>r.1)).mapIdx fun i x=>stC x ((ss.map (fun r:St × Value=>r.2)).getD i (.int .i64 0)))=ss.map fun r=>stC r.1 r.2:=by
   apply List.ext_getElem
   ·simp
   ·intro i h1 h2
    have hi:i<ss.length:=by simpa using h2
    simp [hi]
  show ARd W v3 5 ((ss.map (fun r:St × Value=>r.1)).mapIdx _)
  rw [e]
  exact r3
 ·intro i hi
  have hi':i<ss.length:=by simpa using hi
  have hg:=(g3 ss[i] (List.getElem_mem hi')).2.2.2.1
  have e1:((ss.map (fun r:St × Value=>r.2)).getD i (.int .i64 0))=ss[i].2:=by simp [hi']
  have e2:(ss.map (fun r:St × Value=>r.1))[i]'hi=ss[i].1:=by simp
  show ARd W ((ss.map (fun r:St × Value=>r.2)).getD i (.int .i64 0)) 4 (((ss.map (fun r:St × Value=>r.1))[i]'hi).parts.map ptC)
  rw [e1,e2]
  exact hg
 ·refine ⟨g1,g2,fun x hx=>?_,fun x hx p hp=>?_,g4⟩
  ·obtain ⟨r,hr,rfl⟩:=List.mem_map.1 hx
   exact ⟨(g3 r hr).1,(g3 r hr).2.1,(g3 r hr).2.2.1⟩
  ·obtain ⟨r,hr,rfl⟩:=List.mem_map.1 hx
   exact (g3 r hr).2.2.2.2 p hp
end
end Go.Proofs.YthhfmppealmblaaGreatDoor
namespace Go.Proofs.YthhfmppealmblaaGreatDoor
open Go.ChangeShapes Go.WideShapes Go.ChangeAt Go.ChangeMaps Go.RowKit
theorem own:ownKnob Tryz.prog.godebug=none:=by kernel_rfl
theorem lays:laidOutB Tryz.prog=true:=by kernel_rfl
theorem gPow:Tryz.prog.globalNamed "internal/strconv.uint64pow10"=some 0:=by kernel_rfl
theorem yPow:(Tryz.prog.globals[0]?).map (·.type)=some 281:=by kernel_rfl
theorem cPow:Tryz.prog.cellsOf 281=20:=by kernel_rfl
theorem cPow1:Tryz.prog.cellsOf 229=1:=by kernel_rfl
def listT:List (String × DataW Unit):=Rows.auditClaimsRow.laid
theorem tabsT {W:World} (h:laidMetH Tryz.prog listT W):Tabs W where
 pow:=by
  rw [MakeChecks.laidMetH_plain _ _ _ (by kernel_rfl)] at h
  exact Lib.tabIs_of_head gPow yPow Tryz.underlying281 Tryz.underlying229 cPow1 cPow (h.tail.tail)
noncomputable def laidWorld (os:Os):World:=World.doorLaid Tryz.prog 80 os
theorem metT (os:Os) (args:Array Value):laidMet Tryz.prog listT ((laidWorld os).forCall (fun _ _=>0) ⟨#[],args,[]⟩).memory :=
 laidMet_of_run' 8 (by kernel_rfl) (by kernel_rfl)
theorem hasO (os:Os) (args:Array Value):((laidWorld os).forCall (fun _ _=>0) ⟨#[],args,[]⟩).variablesRefB Tryz.prog=true:=by kernel_rfl
theorem restT (os:Os) (args:Array Value):((((laidWorld os).forCall (fun _ _=>0) ⟨#[],args,[]⟩).heap.toList.drop Tryz.prog.globals.size).take ((begin Tryz.prog (fun _ _=>0) default).world.heap.size-Tryz.prog.globals.size)) =
  (begin Tryz.prog (fun _ _=>0) default).world.heap.toList.drop Tryz.prog.globals.size:=by kernel_rfl
end Go.Proofs.YthhfmppealmblaaGreatDoor
namespace Go.Proofs.YthhfmppealmblaaGreatDoor
open Go.RowKit
set_option maxHeartbeats 400000 in
theorem digit_any (c:Int) (w:World) :
    Calls Tryz.prog 173 #[.int .u8 c] w fun e w'=>e = .returned (.bool (digB c))∧w=w':=by
  go_enter Tryz.func173,Tryz.ntmps173
  go_wp2
  all_goals go_ret
  all_goals (refine ⟨ret_bool ?_,rfl⟩;simp [digB, *];try omega)
set_option maxHeartbeats 400000 in
theorem letter_any (c:Int) (w:World) (h0:0≤c) (h1:c<256) :
    Calls Tryz.prog 172 #[.int .u8 c] w fun e w'=>e = .returned (.bool (letB c))∧w=w':=by
  go_enter Tryz.func172,Tryz.ntmps172
  go_wp2
  all_goals go_ret
  all_goals (rw [← or32 c h0 h1];refine ⟨ret_bool ?_,rfl⟩;simp [*];try omega)
set_option maxRecDepth 100000 in
set_option maxHeartbeats 800000 in
theorem name_any (s:ByteArray) (w:World) (hs:s.size≤maxLen) :
    Calls Tryz.prog 135 #[.string s] w fun e w'=>e = .returned (.bool (nameB (L s)))∧w=w':=by
  unfold maxLen at hs
  go_enter Tryz.func135,Tryz.ntmps135
  go_wp2
  go_loop [3,4,7] (fun _ _ i=>∃ k:Nat,k≤s.size∧i = .int .i64 k∧nameTo s k) (fun _ _ i=>s.size-(intOf i).toNat)
  case atStart=>exact ⟨0,Nat.zero_le _,rfl,nameTo_zero s⟩
  case round =>
    obtain ⟨k,hk,rfl,hto⟩:=hrel
    by_cases hlt:k<s.size
    · have hc0:(0:Int)≤(s[k].toNat:Int):=by omega
      have hc1:=byte_lt s[k]
      go_wp2_with (first | (go_at_call 172;refine (letter_any _ _ hc0 hc1).mono ?_;rintro e w' ⟨rfl,rfl⟩) | (go_at_call 173;refine (digit_any _ _).mono ?_;rintro e w' ⟨rfl,rfl⟩))
      all_goals first
        | (go_ret;exact ⟨ret_bool (by rw [name_bad hlt (by simp [wrdU,wrdB, *] <;> simp_all)]),rfl⟩)
        | (go_round
           case rel=>exact ⟨k+1,by omega,by go_num,nameTo_succ hto hlt (by simp [wrdU,wrdB, *] <;> simp_all) (by simp [*])⟩
           case measure=>simp [intOf];omega)
        | skip
    · have he:=Lib.hid (name_end hto (by omega))
      go_wp2
      all_goals (go_ret;exact ⟨ret_bool (by rw [he.out,Bool.eq_iff_iff];simp <;> omega),rfl⟩)
end Go.Proofs.YthhfmppealmblaaGreatDoor
namespace Go.Proofs.YthhfmppealmblaaGreatDoor
open Go.RowKit
set_option maxHeartbeats 400000 in
theorem gcd_any (a b:Nat) (w:World) (ha:a≤1000000) (hb:b≤1000000) :
  Calls Tryz.prog 191 #[.int .i64 a,.int .i64 b] w fun e w'=>e = .returned (.int .i64 (Nat.gcd a b))∧Below w.heap.size w w':=by
 go_enter Tryz.func191,Tryz.ntmps191
 go_wp2
 go_loopw [0,1] (fun x y wr=>∃ p q:Nat,p≤1000000∧q≤1000000∧x = .int .i64 p∧y = .int .i64 q∧Nat.gcd p q=Nat.gcd a b∧Below w.heap.size w wr) (fun _ y _=>(intOf y).toNat)
 case atStart=>exact ⟨a,b,ha,hb,rfl,rfl,rfl,Below.refl _ _⟩
 case round =>
  obtain ⟨p,q,hp,hq,rfl,rfl,hg,hB⟩:=hrel
  have HG:=Lib.hid hg
  clear hg
  by_cases h0:q=0
  ·subst h0
   go_wp2
   go_ret
   exact ⟨ret_int (by rw [← HG.out];simp),hB⟩
  ·have hn:((q:Int) != 0)=true:=by rw [bne_iff_ne];omega
   have hne:¬ ((q:Int)=0):=by omega
   have e1:(p:Int).tmod (q:Int)=((p % q:Nat):Int):=by rw [Int.tmod_eq_emod_of_nonneg (by omega)];simp
   have hlt:=Nat.mod_lt p (by omega:q > 0)
   go_wp2_with fail
   go_quiet (fail)
   go_wp2
   go_roundw
   case rel=>exact ⟨q,p % q,by omega,by omega,rfl,by first | rfl | go_num,by rw [← HG.out,Nat.gcd_comm p q,Nat.gcd_rec q p,Nat.gcd_comm],below_drewN hB _⟩
   case measure=>simp [intOf];omega
def ValidF (n d:Int):Prop:=1≤d∧d≤15∧1≤n∧n≤64 * d∧Int.gcd n d=1
instance (n d:Int):Decidable (ValidF n d):=by unfold ValidF;infer_instance
set_option maxHeartbeats 800000 in
theorem valid_no (n d:Int) (w:World) (h:d<1∨(1≤d∧15<d)∨(1≤d∧d≤15∧n<1)∨(1≤d∧d≤15∧1≤n∧64 * d<n)) :
  Calls Tryz.prog 185 #[.agg #[.int .i64 n,.int .i64 d]] w fun e w'=>e = .returned (.bool false)∧Below w.heap.size w w':=by
 rcases h with h | ⟨h1,h⟩ | ⟨h1,h2,h⟩ | ⟨h1,h2,h3,h⟩
 all_goals
  go_enter Tryz.func185,Tryz.ntmps185
  go_wp2
  go_ret
  exact ⟨rfl,(Below.refl _ _).alloc (Nat.le_refl _) _⟩
set_option maxHeartbeats 800000 in
theorem valid_gcd (n d:Nat) (w:World) (h1:1≤d) (h2:d≤15) (h3:1≤n) (h4:n≤64 * d) :
  Calls Tryz.prog 185 #[.agg #[.int .i64 n,.int .i64 d]] w fun e w'=>e = .returned (.bool ((Nat.gcd n d:Int)==1))∧Below w.heap.size w w':=by
 have g1:(1:Int)≤(d:Int):=by omega
 have g2:(d:Int)≤(15:Int):=by omega
 have g3:(1:Int)≤(n:Int):=by omega
 have g4:(n:Int)≤64 * (d:Int):=by omega
 have m1:n≤1000000:=by omega
 have m2:d≤1000000:=by omega
 go_enter Tryz.func185,Tryz.ntmps185
 go_wp2_with (go_at_call 191;refine (gcd_any n d _ m1 m2).mono ?_;rintro e w' ⟨rfl,hb⟩)
 go_ret
 exact ⟨rfl,((Below.refl _ _).alloc (Nat.le_refl _) _).trans (hb.mono (by simp))⟩
theorem valid_any (n d:Int) (w:World) :
  Calls Tryz.prog 185 #[.agg #[.int .i64 n,.int .i64 d]] w fun e w'=>e = .returned (.bool (decide (ValidF n d)))∧Below w.heap.size w w':=by
 by_cases h:1≤d∧d≤15∧1≤n∧n≤64 * d
 ·obtain ⟨h1,h2,h3,h4⟩:=h
  obtain ⟨a,rfl⟩:=Int.eq_ofNat_of_zero_le (show 0≤n by omega)
  obtain ⟨b,rfl⟩:=Int.eq_ofNat_of_zero_le (show 0≤d by omega)
  refine (valid_gcd a b w (by omega) (by omega) (by omega) (by omega)).mono ?_
  rintro e w' ⟨rfl,hb⟩
  refine ⟨ret_bool ?_,hb⟩
  have hg:Int.gcd (a:Int) (b:Int)=Nat.gcd a b:=rfl
  rw [Bool.eq_iff_iff,decide_eq_true_eq,beq_iff_eq,ValidF,hg]
  omega
 ·refine (valid_no n d w (by omega)).mono ?_
  rintro e w' ⟨rfl,hb⟩
  exact ⟨ret_bool (by rw [eq_comm,decide_eq_false_iff_not];rintro ⟨a,b,c,e,_⟩;exact h ⟨a,b,c,e⟩),hb⟩
theorem itoa_s (n:Int) (s:ByteArray) (hs:L s=Lib.itoa n) (w:World) (h1 : -9223372036854775808≤n) (h2:n≤9223372036854775807) (t:Tabs w) :
  Calls Tryz.prog 186 #[.int .i64 n] w fun e w'=>e = .returned (.string s)∧Below w.heap.size w w' :=
 (itoa_any n w h1 h2 t).mono fun _ _ ⟨he,hb⟩=>⟨by rw [he,mk_of_L hs],hb⟩
theorem held_step {w W w':World} {a:Addr} {v:Value} (hh:W.cell? a=some v∧Below w.heap.size w W) (hb:Below W.heap.size W w'):w'.cell? a=some v∧Below w.heap.size w w' :=
 ⟨(hb.cell (cell_size hh.1)).trans hh.1,hh.2.trans (hb.mono hh.2.size)⟩
theorem held_tabs {w W:World} {a:Addr} {v:Value} (t:Tabs w) (hh:W.cell? a=some v∧Below w.heap.size w W):Tabs W:=t.below hh.2
def partL (r d:Nat):List UInt8:=Lib.itoa r++47 :: Lib.itoa d
def feetQ (q r d:Nat):List UInt8:=if d=1 then Lib.itoa q else if q=0 then partL r d else Lib.itoa q++43 :: partL r d
def feetL (n d:Nat):List UInt8:=feetQ (n / d) (n % d) d
set_option maxHeartbeats 400000 in
theorem feet_no (n d:Int) (w:World) (h:¬ ValidF n d) :
  Calls Tryz.prog 171 #[.agg #[.int .i64 n,.int .i64 d]] w fun e w'=>e = .returned (.tuple #[.string ⟨#[]⟩,.int .i64 2])∧Below w.heap.size w w':=by
 have hv:=Lib.hid (fun w=>valid_any n d w)
 have hd:decide (ValidF n d)=false:=decide_eq_false h
 clear h
 go_enter Tryz.func171,Tryz.ntmps171
 go_wp2_with (go_at_call 185;refine (hv.out _).mono ?_;rw [hd];rintro e w' ⟨rfl,hb⟩)
 go_ret2
 exact ⟨rfl,((Below.refl _ _).alloc (Nat.le_refl _) _).trans (hb.mono (by simp))⟩
set_option maxHeartbeats 1600000 in
theorem feet_yes (n d:Nat) (f:ByteArray) (hf:L f=feetL n d) (w:World) (t:Tabs w) (h:ValidF n d) :
  Calls Tryz.prog 171 #[.agg #[.int .i64 n,.int .i64 d]] w fun e w'=>e = .returned (.tuple #[.string f,.int .i64 0])∧Below w.heap.size w w':=by
 have hv:=Lib.hid (fun w=>valid_any n d w)
 have hd:decide (ValidF n d)=true:=decide_eq_true h
 have hd1:1≤d:=by have:=h.1;omega
 have hd2:d≤15:=by have:=h.2.1;omega
 have hn1:n≤960:=by have:=h.2.2.2.1;omega
 clear h
 have hr:n % d≤960:=by have:=Nat.mod_lt n (by omega:d > 0);omega
 have hq:n / d≤960:=by have:=Nat.div_le_self n d;omega
 have e1:(n:Int).tdiv (d:Int)=((n / d:Nat):Int):=by rw [Int.tdiv_eq_ediv_of_nonneg (by omega)];simp
 have e2:(n:Int).tmod (d:Int)=((n % d:Nat):Int):=by rw [Int.tmod_eq_emod_of_nonneg (by omega)];simp
 unfold feetL at hf
 generalize n / d=q at *
 generalize n % d=r at *
 have l1:=itoa_le (r:Int) (by omega) (by omega)
 have l2:=itoa_le (d:Int) (by omega) (by omega)
 have l3:=itoa_le (q:Int) (by omega) (by omega)
 obtain ⟨sr,hsr⟩:=mkL (Lib.itoa (r:Int))
 obtain ⟨sd,hsd⟩:=mkL (Lib.itoa (d:Int))
 obtain ⟨sq,hsq⟩:=mkL (Lib.itoa (q:Int))
 have z1:sr.size≤21:=by rw [size_of_L hsr];exact l1
 have z2:sd.size≤21:=by rw [size_of_L hsd];exact l2
 have z3:sq.size≤21:=by rw [size_of_L hsq];exact l3
 have hne:¬ ((d:Int)=0):=by omega
 have HF:=Lib.hid hf
 clear hf
 have cR:=Lib.hid (fun w t=>itoa_s r sr hsr w (by omega) (by omega) t)
 have cD:=Lib.hid (fun w t=>itoa_s d sd hsd w (by omega) (by omega) t)
 have cQ:=Lib.hid (fun w t=>itoa_s q sq hsq w (by omega) (by omega) t)
 have HR:=Lib.hid hsr
 have HD:=Lib.hid hsd
 have HQ:=Lib.hid hsq
 clear hsr hsd hsq l1 l2 l3
 have p1:¬ 9223372036854775807<sr.size+1:=by omega
 have p2:¬ 9223372036854775807<sr.size+1+sd.size:=by omega
 go_enter Tryz.func171,Tryz.ntmps171
 go_wp2_with (go_at_call 185;refine (hv.out _).mono ?_;rw [hd];rintro e w1 ⟨rfl,hb⟩)
 have hbW:Below w.heap.size w w1:=((Below.refl _ w).alloc (Nat.le_refl _) _).trans (hb.mono (by simp))
 have c0:w1.cell? ⟨w.heap.size,0,none⟩=some (.int .i64 n):=(hb.cell (by simp)).trans (by simp)
 have c1:w1.cell? ⟨w.heap.size,1,none⟩=some (.int .i64 d):=(hb.cell (by simp)).trans (by simp)
 have hz:=hb.size
 simp only [World.size_alloc] at hz
 have tw1:=t.below hbW
 clear hb
 go_quiet (fail)
 have hb2:=below_drewN hbW nq
 have c2:(w1.drewN nq).cell? ⟨w.heap.size,1,none⟩=some (.int .i64 d):=c1
 generalize w1.drewN nq=w2 at hb2 c2
 have hz2:=hb2.size
 clear c0 c1 hz tw1 hbW
 go_wp2_with fail
 go_region_held3 (fun w'=>w'.cell? ⟨w.heap.size,1,none⟩=some (.int .i64 d)∧Below w.heap.size w w') (first | exact ⟨c2,hb2.drew⟩ | assumption)
  (first | (go_at_call_of 186 (Value.int IntKind.i64 (r:Int));refine (cR.out _ (by exact held_tabs (a:=⟨w.heap.size,1,none⟩) (v:=.int .i64 d) t (by assumption))).mono ?_;rintro e w' ⟨rfl,hbb⟩;have hn:=held_step (w:=w) (a:=⟨w.heap.size,1,none⟩) (v:=.int .i64 d) (by assumption) hbb;clear hbb) | (go_at_call_of 186 (Value.int IntKind.i64 (d:Int));refine (cD.out _ (by exact held_tabs (a:=⟨w.heap.size,1,none⟩) (v:=.int .i64 d) t (by assumption))).mono ?_;rintro e w' ⟨rfl,hbb⟩;have hn:=held_step (w:=w) (a:=⟨w.heap.size,1,none⟩) (v:=.int .i64 d) (by assumption) hbb;clear hbb))
 obtain ⟨c3,hb3⟩:=hn
 have tw3:=t.below hb3
 have hz3:=hb3.size
 obtain ⟨sp,hsp⟩:∃ sp,sr++⟨#[47]⟩++sd=sp:=⟨_,rfl⟩
 rw [hsp]
 have hP:L sp=partL r d:=by rw [← hsp,L_append,L_append,HR.out,HD.out];simp [partL,L]
 have z4:sp.size≤43:=by rw [size_of_L hP,partL,List.length_append,List.length_cons,← HR.out,← HD.out,L_length,L_length];omega
 have HP:=Lib.hid hP
 have p3:¬ 9223372036854775807<sq.size+1:=by omega
 have p4:¬ 9223372036854775807<sq.size+1+sp.size:=by omega
 clear hsp hP p1 p2 z1 z2 cR cD hb2 c2 hz2
 by_cases hd1':d=1
 ·have b1:((d:Int)==1)=true:=by rw [beq_iff_eq];omega
  have H1:=Lib.hid hd1'
  clear hd1'
  go_wp2_with (go_at_call 186;refine (cQ.out _ tw3).mono ?_;rintro e w4 ⟨rfl,hb4⟩)
  go_ret2
  exact ⟨ret_tup (eq_of_L (by rw [HF.out,feetQ,if_pos H1.out,HQ.out])) rfl,hb3.trans (hb4.mono hz3)⟩
 ·have b1:((d:Int)==1)=false:=by rw [beq_eq_false_iff_ne];omega
  have H1:=Lib.hid hd1'
  clear hd1'
  by_cases hq0:q=0
  ·have b2:((q:Int)==0)=true:=by rw [beq_iff_eq];omega
   have H2:=Lib.hid hq0
   clear hq0
   go_wp2
   go_ret2
   exact ⟨ret_tup (eq_of_L (by rw [HF.out,feetQ,if_neg H1.out,if_pos H2.out,HP.out])) rfl,hb3⟩
  ·have b2:((q:Int)==0)=false:=by rw [beq_eq_false_iff_ne];omega
   have H2:=Lib.hid hq0
   clear hq0
   go_wp2_with (go_at_call 186;refine (cQ.out _ tw3).mono ?_;rintro e w4 ⟨rfl,hb4⟩)
   go_ret2
   exact ⟨ret_tup (eq_of_L (by rw [HF.out,feetQ,if_neg H1.out,if_neg H2.out,L_append,L_append,HQ.out,HP.out];simp [L])) rfl,hb3.trans (hb4.mono hz3)⟩
end Go.Proofs.YthhfmppealmblaaGreatDoor
