/-
  A part of the proof: W10, SpL, Seen.
-/
import Derived.Test.YthhfmppealmblaaGreatDoorM01
import Derived.Deep.QuietTactic
import Derived.BigQuiet
import Derived.Deep.RegionHeld3
import Derived.Maps.Views
import Derived.Maps.OwnOps
import Derived.WideKeyArgs2
import Derived.StringKeys
namespace Go.Proofs.YthhfmppealmblaaGreatDoor
open Go.RowKit
set_option maxHeartbeats 400000 in
theorem gcd_any (a b:Nat) (w:World) (ha:a≤1000000) (hb:b≤1000000) :
  Calls Tryz.prog 191 #[.int .i64 a,.int .i64 b] w fun e w'=>e = .returned (.int .i64 (Nat.gcd a b))∧Below w.heap.size w w':=by
 go_enter Tryz.func191,Tryz.ntmps191
 go_wp2
 go_loopw [0,1] (fun x y wr=>∃ p q:Nat,p≤1000000∧q≤1000000∧x = .int .i64 p∧y = .int .i64 q∧Nat.gcd p q=Nat.gcd a b∧Below w.heap.size w wr) (fun _ y _=>(intOf y).toNat)
 case atStart=>exact ⟨a,b,ha,hb,rfl,rfl,rfl,Below.refl _ _⟩
 case round =>
  obtain ⟨p,q,hp,hq,rfl,rfl,hg,hB⟩:=hrel
  have HG:=Lib.hid hg
  clear hg
  by_cases h0:q=0
  ·subst h0
   go_wp2
   go_ret
   exact ⟨ret_int (by rw [← HG.out];simp),hB⟩
  ·have hn:((q:Int) != 0)=true:=by rw [bne_iff_ne];omega
   have hne:¬ ((q:Int)=0):=by omega
   have e1:(p:Int).tmod (q:Int)=((p % q:Nat):Int):=by rw [Int.tmod_eq_emod_of_nonneg (by omega)];simp
   have hlt:=Nat.mod_lt p (by omega:q > 0)
   go_wp2_with fail
   go_quiet (fail)
   go_wp2
   go_roundw
   case rel=>exact ⟨q,p % q,by omega,by omega,rfl,by first | rfl | go_num,by rw [← HG.out,Nat.gcd_comm p q,Nat.gcd_rec q p,Nat.gcd_comm],below_drewN hB _⟩
   case measure=>simp [intOf];omega
def ValidF (n d:Int):Prop:=1≤d∧d≤15∧1≤n∧n≤64 * d∧Int.gcd n d=1
instance (n d:Int):Decidable (ValidF n d):=by unfold ValidF;infer_instance
set_option maxHeartbeats 800000 in
theorem valid_no (n d:Int) (w:World) (h:d<1∨(1≤d∧15<d)∨(1≤d∧d≤15∧n<1)∨(1≤d∧d≤15∧1≤n∧64 * d<n)) :
  Calls Tryz.prog 185 #[.agg #[.int .i64 n,.int .i64 d]] w fun e w'=>e = .returned (.bool false)∧Below w.heap.size w w':=by
 rcases h with h | ⟨h1,h⟩ | ⟨h1,h2,h⟩ | ⟨h1,h2,h3,h⟩
 all_goals
  go_enter Tryz.func185,Tryz.ntmps185
  go_wp2
  go_ret
  exact ⟨rfl,(Below.refl _ _).alloc (Nat.le_refl _) _⟩
set_option maxHeartbeats 800000 in
theorem valid_gcd (n d:Nat) (w:World) (h1:1≤d) (h2:d≤15) (h3:1≤n) (h4:n≤64 * d) :
  Calls Tryz.prog 185 #[.agg #[.int .i64 n,.int .i64 d]] w fun e w'=>e = .returned (.bool ((Nat.gcd n d:Int)==1))∧Below w.heap.size w w':=by
 have g1:(1:Int)≤(d:Int):=by omega
 have g2:(d:Int)≤(15:Int):=by omega
 have g3:(1:Int)≤(n:Int):=by omega
 have g4:(n:Int)≤64 * (d:Int):=by omega
 have m1:n≤1000000:=by omega
 have m2:d≤1000000:=by omega
 go_enter Tryz.func185,Tryz.ntmps185
 go_wp2_with (go_at_call 191;refine (gcd_any n d _ m1 m2).mono ?_;rintro e w' ⟨rfl,hb⟩)
 go_ret
 exact ⟨rfl,((Below.refl _ _).alloc (Nat.le_refl _) _).trans (hb.mono (by simp))⟩
theorem valid_any (n d:Int) (w:World) :
  Calls Tryz.prog 185 #[.agg #[.int .i64 n,.int .i64 d]] w fun e w'=>e = .returned (.bool (decide (ValidF n d)))∧Below w.heap.size w w':=by
 by_cases h:1≤d∧d≤15∧1≤n∧n≤64 * d
 ·obtain ⟨h1,h2,h3,h4⟩:=h
  obtain ⟨a,rfl⟩:=Int.eq_ofNat_of_zero_le (show 0≤n by omega)
  obtain ⟨b,rfl⟩:=Int.eq_ofNat_of_zero_le (show 0≤d by omega)
  refine (valid_gcd a b w (by omega) (by omega) (by omega) (by omega)).mono ?_
  rintro e w' ⟨rfl,hb⟩
  refine ⟨ret_bool ?_,hb⟩
  have hg:Int.gcd (a:Int) (b:Int)=Nat.gcd a b:=rfl
  rw [Bool.eq_iff_iff,decide_eq_true_eq,beq_iff_eq,ValidF,hg]
  omega
 ·refine (valid_no n d w (by omega)).mono ?_
  rintro e w' ⟨rfl,hb⟩
  exact ⟨ret_bool (by rw [eq_comm,decide_eq_false_iff_not];rintro ⟨a,b,c,e,_⟩;exact h ⟨a,b,c,e⟩),hb⟩
theorem itoa_s (n:Int) (s:ByteArray) (hs:L s=Lib.itoa n) (w:World) (h1 : -9223372036854775808≤n) (h2:n≤9223372036854775807) (t:Tabs w) :
  Calls Tryz.prog 186 #[.int .i64 n] w fun e w'=>e = .returned (.string s)∧Below w.heap.size w w' :=
 (itoa_any n w h1 h2 t).mono fun _ _ ⟨he,hb⟩=>⟨by rw [he,mk_of_L hs],hb⟩
theorem held_step {w W w':World} {a:Addr} {v:Value} (hh:W.cell? a=some v∧Below w.heap.size w W) (hb:Below W.heap.size W w'):w'.cell? a=some v∧Below w.heap.size w w' :=
 ⟨(hb.cell (cell_size hh.1)).trans hh.1,hh.2.trans (hb.mono hh.2.size)⟩
theorem held_tabs {w W:World} {a:Addr} {v:Value} (t:Tabs w) (hh:W.cell? a=some v∧Below w.heap.size w W):Tabs W:=t.below hh.2
def partL (r d:Nat):List UInt8:=Lib.itoa r++47 :: Lib.itoa d
def feetQ (q r d:Nat):List UInt8:=if d=1 then Lib.itoa q else if q=0 then partL r d else Lib.itoa q++43 :: partL r d
def feetL (n d:Nat):List UInt8:=feetQ (n / d) (n % d) d
set_option maxHeartbeats 400000 in
theorem feet_no (n d:Int) (w:World) (h:¬ ValidF n d) :
  Calls Tryz.prog 171 #[.agg #[.int .i64 n,.int .i64 d]] w fun e w'=>e = .returned (.tuple #[.string ⟨#[]⟩,.int .i64 2])∧Below w.heap.size w w':=by
 have hv:=Lib.hid (fun w=>valid_any n d w)
 have hd:decide (ValidF n d)=false:=decide_eq_false h
 clear h
 go_enter Tryz.func171,Tryz.ntmps171
 go_wp2_with (go_at_call 185;refine (hv.out _).mono ?_;rw [hd];rintro e w' ⟨rfl,hb⟩)
 go_ret2
 exact ⟨rfl,((Below.refl _ _).alloc (Nat.le_refl _) _).trans (hb.mono (by simp))⟩
set_option maxHeartbeats 1600000 in
theorem feet_yes (n d:Nat) (f:ByteArray) (hf:L f=feetL n d) (w:World) (t:Tabs w) (h:ValidF n d) :
  Calls Tryz.prog 171 #[.agg #[.int .i64 n,.int .i64 d]] w fun e w'=>e = .returned (.tuple #[.string f,.int .i64 0])∧Below w.heap.size w w':=by
 have hv:=Lib.hid (fun w=>valid_any n d w)
 have hd:decide (ValidF n d)=true:=decide_eq_true h
 have hd1:1≤d:=by have:=h.1;omega
 have hd2:d≤15:=by have:=h.2.1;omega
 have hn1:n≤960:=by have:=h.2.2.2.1;omega
 clear h
 have hr:n % d≤960:=by have:=Nat.mod_lt n (by omega:d > 0);omega
 have hq:n / d≤960:=by have:=Nat.div_le_self n d;omega
 have e1:(n:Int).tdiv (d:Int)=((n / d:Nat):Int):=by rw [Int.tdiv_eq_ediv_of_nonneg (by omega)];simp
 have e2:(n:Int).tmod (d:Int)=((n % d:Nat):Int):=by rw [Int.tmod_eq_emod_of_nonneg (by omega)];simp
 unfold feetL at hf
 generalize n / d=q at *
 generalize n % d=r at *
 have l1:=itoa_le (r:Int) (by omega) (by omega)
 have l2:=itoa_le (d:Int) (by omega) (by omega)
 have l3:=itoa_le (q:Int) (by omega) (by omega)
 obtain ⟨sr,hsr⟩:=mkL (Lib.itoa (r:Int))
 obtain ⟨sd,hsd⟩:=mkL (Lib.itoa (d:Int))
 obtain ⟨sq,hsq⟩:=mkL (Lib.itoa (q:Int))
 have z1:sr.size≤21:=by rw [size_of_L hsr];exact l1
 have z2:sd.size≤21:=by rw [size_of_L hsd];exact l2
 have z3:sq.size≤21:=by rw [size_of_L hsq];exact l3
 have hne:¬ ((d:Int)=0):=by omega
 have HF:=Lib.hid hf
 clear hf
 have cR:=Lib.hid (fun w t=>itoa_s r sr hsr w (by omega) (by omega) t)
 have cD:=Lib.hid (fun w t=>itoa_s d sd hsd w (by omega) (by omega) t)
 have cQ:=Lib.hid (fun w t=>itoa_s q sq hsq w (by omega) (by omega) t)
 have HR:=Lib.hid hsr
 have HD:=Lib.hid hsd
 have HQ:=Lib.hid hsq
 clear hsr hsd hsq l1 l2 l3
 have p1:¬ 9223372036854775807<sr.size+1:=by omega
 have p2:¬ 9223372036854775807<sr.size+1+sd.size:=by omega
 go_enter Tryz.func171,Tryz.ntmps171
 go_wp2_with (go_at_call 185;refine (hv.out _).mono ?_;rw [hd];rintro e w1 ⟨rfl,hb⟩)
 have hbW:Below w.heap.size w w1:=((Below.refl _ w).alloc (Nat.le_refl _) _).trans (hb.mono (by simp))
 have c0:w1.cell? ⟨w.heap.size,0,none⟩=some (.int .i64 n):=(hb.cell (by simp)).trans (by simp)
 have c1:w1.cell? ⟨w.heap.size,1,none⟩=some (.int .i64 d):=(hb.cell (by simp)).trans (by simp)
 have hz:=hb.size
 simp only [World.size_alloc] at hz
 have tw1:=t.below hbW
 clear hb
 go_quiet (fail)
 have hb2:=below_drewN hbW nq
 have c2:(w1.drewN nq).cell? ⟨w.heap.size,1,none⟩=some (.int .i64 d):=c1
 generalize w1.drewN nq=w2 at hb2 c2
 have hz2:=hb2.size
 clear c0 c1 hz tw1 hbW
 go_wp2_with fail
 go_region_held3 (fun w'=>w'.cell? ⟨w.heap.size,1,none⟩=some (.int .i64 d)∧Below w.heap.size w w') (first | exact ⟨c2,hb2.drew⟩ | assumption)
  (first | (go_at_call_of 186 (Value.int IntKind.i64 (r:Int));refine (cR.out _ (by exact held_tabs (a:=⟨w.heap.size,1,none⟩) (v:=.int .i64 d) t (by assumption))).mono ?_;rintro e w' ⟨rfl,hbb⟩;have hn:=held_step (w:=w) (a:=⟨w.heap.size,1,none⟩) (v:=.int .i64 d) (by assumption) hbb;clear hbb) | (go_at_call_of 186 (Value.int IntKind.i64 (d:Int));refine (cD.out _ (by exact held_tabs (a:=⟨w.heap.size,1,none⟩) (v:=.int .i64 d) t (by assumption))).mono ?_;rintro e w' ⟨rfl,hbb⟩;have hn:=held_step (w:=w) (a:=⟨w.heap.size,1,none⟩) (v:=.int .i64 d) (by assumption) hbb;clear hbb))
 obtain ⟨c3,hb3⟩:=hn
 have tw3:=t.below hb3
 have hz3:=hb3.size
 obtain ⟨sp,hsp⟩:∃ sp,sr++⟨#[47]⟩++sd=sp:=⟨_,rfl⟩
 rw [hsp]
 have hP:L sp=partL r d:=by rw [← hsp,L_append,L_append,HR.out,HD.out];simp [partL,L]
 have z4:sp.size≤43:=by rw [size_of_L hP,partL,List.length_append,List.length_cons,← HR.out,← HD.out,L_length,L_length];omega
 have HP:=Lib.hid hP
 have p3:¬ 9223372036854775807<sq.size+1:=by omega
 have p4:¬ 9223372036854775807<sq.size+1+sp.size:=by omega
 clear hsp hP p1 p2 z1 z2 cR cD hb2 c2 hz2
 by_cases hd1':d=1
 ·have b1:((d:Int)==1)=true:=by rw [beq_iff_eq];omega
  have H1:=Lib.hid hd1'
  clear hd1'
  go_wp2_with (go_at_call 186;refine (cQ.out _ tw3).mono ?_;rintro e w4 ⟨rfl,hb4⟩)
  go_ret2
  exact ⟨ret_tup (eq_of_L (by rw [HF.out,feetQ,if_pos H1.out,HQ.out])) rfl,hb3.trans (hb4.mono hz3)⟩
 ·have b1:((d:Int)==1)=false:=by rw [beq_eq_false_iff_ne];omega
  have H1:=Lib.hid hd1'
  clear hd1'
  by_cases hq0:q=0
  ·have b2:((q:Int)==0)=true:=by rw [beq_iff_eq];omega
   have H2:=Lib.hid hq0
   clear hq0
   go_wp2
   go_ret2
   exact ⟨ret_tup (eq_of_L (by rw [HF.out,feetQ,if_neg H1.out,if_pos H2.out,HP.out])) rfl,hb3⟩
  ·have b2:((q:Int)==0)=false:=by rw [beq_eq_false_iff_ne];omega
   have H2:=Lib.hid hq0
   clear hq0
   go_wp2_with (go_at_call 186;refine (cQ.out _ tw3).mono ?_;rintro e w4 ⟨rfl,hb4⟩)
   go_ret2
   exact ⟨ret_tup (eq_of_L (by rw [HF.out,feetQ,if_neg H1.out,if_neg H2.out,L_append,L_append,HQ.out,HP.out];simp [L])) rfl,hb3.trans (hb4.mono hz3)⟩
end Go.Proofs.YthhfmppealmblaaGreatDoor
namespace Go.Proofs.YthhfmppealmblaaGreatDoor
theorem nmE_form {nm:ByteArray} {es:List ByteArray} {n:Int} (h:nameB (L nm)=false):nmE nm es n=6:=by unfold nmE;rw [if_pos h]
theorem nmE_twice {nm e:ByteArray} {es:List ByteArray} {n:Int} (h:nameB (L nm)=true) (he:e∈es) (hl:L e=L nm):nmE nm es n=8:=by
 unfold nmE
 rw [if_neg (by rw [h];decide),if_pos (by rw [← hl];exact List.mem_map_of_mem he)]
theorem nmE_next {nm:ByteArray} {es:List ByteArray} {n:Int} (h:nameB (L nm)=true) (he:∀ e∈es,L e≠L nm):nmE nm es n=n:=by
 unfold nmE
 rw [if_neg (by rw [h];decide),if_neg]
 intro hm
 obtain ⟨e,h1,h2⟩:=List.mem_map.1 hm
 exact he e h1 h2
theorem mem_take_map {α β:Type} {l:List α} {f:α→β} {i k:Nat} (hk:k<i) (hi:i<l.length):f (l[k]'(by omega))∈(l.take i).map f:=by
 refine List.mem_map_of_mem ?_
 rw [List.mem_take_iff_getElem]
 exact ⟨k,by omega,rfl⟩
theorem of_mem_take_map {α β:Type} {l:List α} {f:α→β} {i:Nat} (hi:i<l.length) {y:β} (h:y∈(l.take i).map f):∃ k,∃ hk:k<i,y=f (l[k]'(by omega)):=by
 obtain ⟨x,hx,rfl⟩:=List.mem_map.1 h
 rw [List.mem_take_iff_getElem] at hx
 obtain ⟨k,hk,rfl⟩:=hx
 exact ⟨k,by omega,rfl⟩
theorem errD_is {S:Sp} {i:Nat} (hi:i<S.ds.length):errD S i=nmE S.ds[i].name ((S.ds.take i).map (·.name)) (dvE S.ds[i]):=by
 unfold errD
 rw [List.getElem?_eq_getElem hi]
theorem errD_form {S:Sp} {i:Nat} (hi:i<S.ds.length) (h:nameB (L S.ds[i].name)=false):errD S i=6:=by rw [errD_is hi,nmE_form h]
theorem errD_twice {S:Sp} {i k:Nat} (hi:i<S.ds.length) (h:nameB (L S.ds[i].name)=true) (hk:k<i) (he:L (S.ds[k]'(by omega)).name=L S.ds[i].name):errD S i=8:=by
 rw [errD_is hi,nmE_twice h (mem_take_map (f:=(·.name)) hk hi) he]
theorem errD_next {S:Sp} {i:Nat} (hi:i<S.ds.length) (h:nameB (L S.ds[i].name)=true) (he:∀ k (hk:k<i),L (S.ds[k]'(by omega)).name≠L S.ds[i].name):errD S i=dvE S.ds[i]:=by
 rw [errD_is hi,nmE_next h]
 intro y hy
 obtain ⟨k,hk,rfl⟩:=of_mem_take_map (f:=(·.name)) hi hy
 exact he k hk
theorem errR_is {S:Sp} {i:Nat} (hi:i<S.rs.length):errR S i=nmE S.rs[i].name ((S.rs.take i).map (·.name)) (rkE S.rs[i]):=by
 unfold errR
 rw [List.getElem?_eq_getElem hi]
theorem errR_form {S:Sp} {i:Nat} (hi:i<S.rs.length) (h:nameB (L S.rs[i].name)=false):errR S i=6:=by rw [errR_is hi,nmE_form h]
theorem errR_twice {S:Sp} {i k:Nat} (hi:i<S.rs.length) (h:nameB (L S.rs[i].name)=true) (hk:k<i) (he:L (S.rs[k]'(by omega)).name=L S.rs[i].name):errR S i=8:=by
 rw [errR_is hi,nmE_twice h (mem_take_map (f:=(·.name)) hk hi) he]
theorem errR_next {S:Sp} {i:Nat} (hi:i<S.rs.length) (h:nameB (L S.rs[i].name)=true) (he:∀ k (hk:k<i),L (S.rs[k]'(by omega)).name≠L S.rs[i].name):errR S i=rkE S.rs[i]:=by
 rw [errR_is hi,nmE_next h]
 intro y hy
 obtain ⟨k,hk,rfl⟩:=of_mem_take_map (f:=(·.name)) hi hy
 exact he k hk
theorem errC_is {S:Sp} {i:Nat} (hi:i<S.cs.length):errC S i=nmE S.cs[i].name ((S.cs.take i).map (·.name)) (cpE S S.cs[i]):=by
 unfold errC
 rw [List.getElem?_eq_getElem hi]
theorem errC_form {S:Sp} {i:Nat} (hi:i<S.cs.length) (h:nameB (L S.cs[i].name)=false):errC S i=6:=by rw [errC_is hi,nmE_form h]
theorem errC_twice {S:Sp} {i k:Nat} (hi:i<S.cs.length) (h:nameB (L S.cs[i].name)=true) (hk:k<i) (he:L (S.cs[k]'(by omega)).name=L S.cs[i].name):errC S i=8:=by
 rw [errC_is hi,nmE_twice h (mem_take_map (f:=(·.name)) hk hi) he]
theorem errC_next {S:Sp} {i:Nat} (hi:i<S.cs.length) (h:nameB (L S.cs[i].name)=true) (he:∀ k (hk:k<i),L (S.cs[k]'(by omega)).name≠L S.cs[i].name):errC S i=cpE S S.cs[i]:=by
 rw [errC_is hi,nmE_next h]
 intro y hy
 obtain ⟨k,hk,rfl⟩:=of_mem_take_map (f:=(·.name)) hi hy
 exact he k hk
theorem errS_is {S:Sp} {i:Nat} (hi:i<S.ss.length):errS S i=if nameB (L S.ss[i].name)=false then 6 else if 0≤S.ss[i].div∧S.ss[i].div<S.ds.length then nmE S.ss[i].name (((S.ss.take i).filter fun y=>decide (y.div=S.ss[i].div)).map (·.name)) (stE S.ss[i]) else 4:=by
 unfold errS
 rw [List.getElem?_eq_getElem hi]
theorem errS_form {S:Sp} {i:Nat} (hi:i<S.ss.length) (h:nameB (L S.ss[i].name)=false):errS S i=6:=by rw [errS_is hi,if_pos h]
theorem errS_none {S:Sp} {i:Nat} (hi:i<S.ss.length) (h:nameB (L S.ss[i].name)=true) (hd:¬ (0≤S.ss[i].div∧S.ss[i].div<S.ds.length)):errS S i=4:=by
 rw [errS_is hi,if_neg (by rw [h];decide),if_neg hd]
theorem errS_twice {S:Sp} {i k:Nat} (hi:i<S.ss.length) (h:nameB (L S.ss[i].name)=true) (hd:0≤S.ss[i].div∧S.ss[i].div<S.ds.length) (hk:k<i) (he:L (S.ss[k]'(by omega)).name=L S.ss[i].name) (hv:(S.ss[k]'(by omega)).div=S.ss[i].div):errS S i=8:=by
 rw [errS_is hi,if_neg (by rw [h];decide),if_pos hd]
 refine nmE_twice (e:=(S.ss[k]'(by omega)).name) h (List.mem_map_of_mem ?_) he
 rw [List.mem_filter,List.mem_take_iff_getElem]
 exact ⟨⟨k,by omega,rfl⟩,by simpa using hv⟩
theorem errS_next {S:Sp} {i:Nat} (hi:i<S.ss.length) (h:nameB (L S.ss[i].name)=true) (hd:0≤S.ss[i].div∧S.ss[i].div<S.ds.length) (he:∀ k (hk:k<i),(S.ss[k]'(by omega)).div=S.ss[i].div→L (S.ss[k]'(by omega)).name≠L S.ss[i].name):errS S i=stE S.ss[i]:=by
 rw [errS_is hi,if_neg (by rw [h];decide),if_pos hd,nmE_next h]
 intro y hy
 obtain ⟨x,hx,rfl⟩:=List.mem_map.1 hy
 rw [List.mem_filter,List.mem_take_iff_getElem] at hx
 obtain ⟨⟨k,hk,rfl⟩,h2⟩:=hx
 exact he k (by omega) (by simpa using h2)
theorem errP_is {S:Sp} {x:St} {k:Nat} (hk:k<x.parts.length):errP S x k=ptE S x x.parts[k]:=by
 unfold errP
 rw [List.getElem?_eq_getElem hk]
theorem ptE_is {S:Sp} {x:St} {p:Pt} (hd:x.div.toNat<S.ds.length) (h1:0≤p.rank) (h2:p.rank<S.rs.length):ptE S x p =
  if S.ds[x.div.toNat].lo≤p.lo∧p.hi≤S.ds[x.div.toNat].hi∧p.lo≤p.hi∧-96≤p.shift∧p.shift≤96 then (if (S.rs[p.rank.toNat]'(by omega)).low≤p.lo+p.shift∧p.hi+p.shift<(S.rs[p.rank.toNat]'(by omega)).low+(S.rs[p.rank.toNat]'(by omega)).cnt then 0 else 4) else 7:=by
 unfold ptE
 rw [if_pos ⟨h1,h2⟩,List.getElem?_eq_getElem hd,List.getElem?_eq_getElem (by omega:p.rank.toNat<S.rs.length)]
theorem ptE_none {S:Sp} {x:St} {p:Pt} (h:¬ (0≤p.rank∧p.rank<S.rs.length)):ptE S x p=4:=by unfold ptE;rw [if_neg h]
theorem stopE_bad {S:Sp} {i:Nat} (hi:i<S.ss.length) (h:errS S i≠0):stopE S i=(0,errS S i):=by
 unfold stopE
 rw [List.getElem?_eq_getElem hi]
 exact if_pos h
theorem stopE_part {S:Sp} {i k:Nat} (hi:i<S.ss.length) (h:errS S i=0) (hk:fst0 (errP S S.ss[i]) S.ss[i].parts.length=some k):stopE S i=((k:Int)+1,errP S S.ss[i] k):=by
 unfold stopE
 rw [List.getElem?_eq_getElem hi]
 simp only
 rw [if_neg (by rw [h];decide),hk]
theorem stopE_good {S:Sp} {i:Nat} (hi:i<S.ss.length) (h:errS S i=0) (hk:fst0 (errP S S.ss[i]) S.ss[i].parts.length=none):stopE S i=(0,0):=by
 unfold stopE
 rw [List.getElem?_eq_getElem hi]
 simp only
 rw [if_neg (by rw [h];decide),hk]
end Go.Proofs.YthhfmppealmblaaGreatDoor
namespace Go.Proofs.YthhfmppealmblaaGreatDoor
open Go.RowKit Go.Maps Go.WideShapes Go.WideMaps
def Key (k n:List UInt8):List UInt8:=k++32 :: n
theorem cut_inj:∀ {a c b d:List UInt8},(32:UInt8) ∉ a→(32:UInt8) ∉ c→a++32 :: b=c++32 :: d→a=c∧b=d
 | [],[],b,d,_,_,h=>⟨rfl,(List.cons.inj h).2⟩
 | [],y :: c,b,d,_,h2,h=>absurd (List.cons.inj h).1 (fun e=>h2 (by rw [e];simp))
 | x :: a,[],b,d,h1,_,h=>absurd (List.cons.inj h).1 (fun e=>h1 (by rw [← e];simp))
 | x :: a,y :: c,b,d,h1,h2,h=>by
  simp only [List.mem_cons,not_or] at h1 h2
  obtain ⟨e1,e2⟩:=cut_inj h1.2 h2.2 (List.cons.inj h).2
  exact ⟨by rw [(List.cons.inj h).1,e1],e2⟩
theorem key_inj {k1 k2 n1 n2:List UInt8} (h1:(32:UInt8) ∉ n1) (h2:(32:UInt8) ∉ n2) (h:Key k1 n1=Key k2 n2):k1=k2∧n1=n2:=by
 have e:=congrArg List.reverse h
 unfold Key at e
 simp only [List.reverse_append,List.reverse_cons,List.append_assoc,List.singleton_append] at e
 obtain ⟨e1,e2⟩:=cut_inj (by simpa using h1) (by simpa using h2) e
 exact ⟨List.reverse_inj.1 e2,List.reverse_inj.1 e1⟩
theorem name_no32 {l:List UInt8} (h:nameB l=true):(32:UInt8) ∉ l:=by
 intro hm
 unfold nameB at h
 simp only [Bool.and_eq_true] at h
 have:=List.all_eq_true.1 h.2 32 hm
 revert this
 decide
def SeenD (D:DataW Unit) (ks:List (List UInt8 × List UInt8)):Prop:=Maps.IsMap D∧(∀ p∈ks,(32:UInt8) ∉ p.2) ∧
 ∀ k n,(32:UInt8) ∉ n→D.atKey (.string (Key k n)) (.lit (.bool false)) = .lit (.bool (decide ((k,n)∈ks)))
theorem seen_start:SeenD (.map []) []:=by
 refine ⟨Maps.isMap_empty,fun p h=>absurd h List.not_mem_nil,fun k n _=>?_⟩
 simp
 rfl
theorem seen_put {D:DataW Unit} {ks:List (List UInt8 × List UInt8)} (h:SeenD D ks) (k n:List UInt8) (hn:(32:UInt8) ∉ n):SeenD (D.put (.string (Key k n)) (.lit (.bool true))) ((k,n) :: ks):=by
 obtain ⟨h1,h2,h3⟩:=h
 refine ⟨h1.put _ _,fun p hp=>?_,fun k' n' hn'=>?_⟩
 ·rcases List.mem_cons.1 hp with rfl | hp
  ·exact hn
  ·exact h2 p hp
 ·by_cases e:(k',n')=(k,n)
  ·cases e
   rw [Maps.atKey_put_same h1 (by trivial)]
   simp
  ·rw [Maps.atKey_put_other (by
    intro e2
    have:=key_inj hn' hn (Lit.string.inj e2)
    exact e (by rw [this.1,this.2])),h3 k' n' hn']
   congr 3
   simp [e]
def Seen (P:Program) (ts tb:TypeId) (w:World) (b n:Nat) (ks:List (List UInt8 × List UInt8)):Prop:=∃ D:DataW Unit,w.ownsMap P ts (plainElem P tb) b n D∧SeenD D ks
theorem Seen.made (P:Program) (ts tb:TypeId) (w:World):Seen P ts tb (w.alloc (.map #[] 0)) w.heap.size 0 []:=⟨_,World.ownsMap_made w P ts _,seen_start⟩
theorem Seen.kept {P:Program} {ts tb:TypeId} {w w':World} {b n:Nat} {ks:List (List UInt8 × List UInt8)} {row:Option Nat} (h:Seen P ts tb w b n ks) (hg:w.grownBy w' row) (hne:some b≠row):Seen P ts tb w' b n ks:=by
 obtain ⟨D,h1,h2⟩:=h
 exact ⟨D,h1.kept hg hne,h2⟩
theorem Seen.below {P:Program} {ts tb:TypeId} {w w':World} {b n:Nat} {ks:List (List UInt8 × List UInt8)} (h:Seen P ts tb w b n ks) (hb:Below w.heap.size w w'):Seen P ts tb w' b n ks :=
 h.kept (row:=none) ⟨hb.os,hb.tape,hb.output,hb.size,fun i hi _=>hb.block i hi⟩ (by simp)
theorem Seen.lt {P:Program} {ts tb:TypeId} {w:World} {b n:Nat} {ks:List (List UInt8 × List UInt8)} (h:Seen P ts tb w b n ks):b<w.heap.size:=by
 obtain ⟨D,h1,_⟩:=h
 exact h1.lt
theorem bool_inv {P:Program} {e:TypeId} (he:P.underlying e=some .bool) {v:Value} {z:DataW Unit × List MemPlace} (h:plainElem P e v=some z):∃ a,v = .bool a∧z=(.lit (.bool a),[]):=by
 unfold plainElem at h
 rw [he] at h
 cases v <;> simp at h
 exact ⟨_,rfl,h.symm⟩
theorem wpList_lookup_seen {P:Program} (w:World) {ops:Array Oper} {rest:List Oper} {o:Oper} {a:Act} {Q:Exit→Act→World→Prop}
  (hg:o.guard=none) (m x:Operand) (t:TypeId) (hop:o.op=Op.lookup t m x false)
  (ts tb:TypeId) (hts:P.underlying ts=some .string) (htb:P.underlying tb=some .bool) (ht:P.underlying t=some (.map ts tb)) (hz:(zeroValue tb).run P w = .ok (.bool false) w) (b n:Nat) (ks:List (List UInt8 × List UInt8))
  (hm:a.eval m = .map (some b)) (hown:Seen P ts tb w b n ks) (s:ByteArray) (hx:a.eval x = .string s) (k nm:List UInt8) (hs:L s=Key k nm) (hz2:s.size≤maxLen) (hn:(32:UInt8) ∉ nm)
  (hK:wpList P ops Q rest (a.put o.dst (.bool (decide ((k,nm)∈ks)))) w) :
  wpList P ops Q (o :: rest) a w:=by
 refine wpList_plain hg fun K' hK'=>?_
 obtain ⟨D,h1,_,_,h3⟩:=hown
 obtain ⟨v,ps,hrun,hv⟩:=h1.lookup (string_keyed hts) ht hz (plainElem_bool htb false) (key:=.string s) (keyOf_string_mk hts hz2)
 obtain ⟨c,rfl,hc⟩:=bool_inv htb hv
 have he:=h3 k nm hn
 rw [← hs] at he
 have hc1:=congrArg Prod.fst hc
 simp only at hc1
 have hcc:c=decide ((k,nm)∈ks):=by
  have:=hc1.symm.trans he
  simpa using this
 rw [hcc] at hrun
 unfold Oper.wp
 simp [execOp,hop,hm,hx,hrun,Result.andThen]
 exact hK' _ _ hK
theorem wpList_update_seen {P:Program} (w:World) {ops:Array Oper} {rest:List Oper} {o:Oper} {a:Act} {Q:Exit→Act→World→Prop}
  (hg:o.guard=none) (m x v:Operand) (t:TypeId) (hop:o.op=Op.mapUpdate t m x v)
  (ts tb:TypeId) (hts:P.underlying ts=some .string) (htb:P.underlying tb=some .bool) (ht:P.underlying t=some (.map ts tb)) (b n:Nat) (ks:List (List UInt8 × List UInt8))
  (hm:a.eval m = .map (some b)) (hown:Seen P ts tb w b n ks) (hlt:n<maxLen) (s:ByteArray) (hx:a.eval x = .string s) (hv:a.eval v = .bool true) (k nm:List UInt8) (hs:L s=Key k nm) (hz2:s.size≤maxLen) (hn:(32:UInt8) ∉ nm)
  (hK:∀ w',Seen P ts tb w' b (n+1) ((k,nm) :: ks)→w.grownBy w' (some b)→wpList P ops Q rest (a.put o.dst undef) w') :
  wpList P ops Q (o :: rest) a w:=by
 obtain ⟨D,h1,h2⟩:=hown
 refine wpList_mapUpdate_own w hg m x v t hop ts tb (string_keyed hts) ht (plainElem P tb) b n D hm h1 hlt (.string s) (.bool true) (.string (L s)) hx hv (keyOf_string_mk hts hz2) (.lit (.bool true)) [] (plainElem_bool htb true) ?_
 intro w' h3 h4
 exact hK w' ⟨_,h3,by rw [hs];exact seen_put h2 k nm hn⟩ h4
end Go.Proofs.YthhfmppealmblaaGreatDoor
