/-
  A part of the proof: F1c, LG, RP, RN, ON, TA, TC, TD, TV.
-/
import Derived.Test.YthhfmppealmblaaGreatDoorM01
import Derived.Test.YthhfmppealmblaaGreatDoorM06
import Derived.Test.YthhfmppealmblaaGreatDoorM07
import Derived.Test.YthhfmppealmblaaGreatDoorM12
import Derived.Test.YthhfmppealmblaaGreatDoorM38
import Derived.OwnWalk
namespace Go.Proofs.YthhfmppealmblaaGreatDoor
open Go.RowKit
def FarEnds (S:Sp) (w:World) (e:Ending) (w':World):Prop:=∃ b,e = .returned (.bool b)∧(b=false→SpOk S)∧Below w.heap.size w w'
theorem farEnds_yes {S:Sp} {w w':World} {v:Value} (hv:v = .bool true) (hb:Below w.heap.size w w'):FarEnds S w (.returned v) w':=⟨true,by rw [hv],(fun h=>by cases h),hb⟩
theorem farEnds_of {S:Sp} {w w':World} {v:Value} {b:Bool} (hv:v = .bool b) (h:b=false→SpOk S) (hb:Below w.heap.size w w'):FarEnds S w (.returned v) w':=⟨b,by rw [hv],h,hb⟩
theorem all_of_get {α:Type} {l:List α} {p:α→Prop} (h:∀ j (h:j<l.length),j<l.length→p l[j]):∀ x∈l,p x:=by
 intro x hx
 obtain ⟨j,hj,rfl⟩:=List.mem_iff_getElem.1 hx
 exact h j hj hj
theorem upto_step {α:Type} {l:List α} {p:α→Prop} {k:Nat} (hk:k<l.length) (h:∀ j (h:j<l.length),j<k→p l[j]) (h2:p l[k]):∀ j (h:j<l.length),j<k+1→p l[j]:=by
 intro j hj hjk
 rcases Nat.lt_succ_iff_lt_or_eq.1 hjk with h' | h'
 ·exact h j hj h'
 ·subst h';exact h2
set_option maxRecDepth 100000 in
set_option maxHeartbeats 3200000 in
theorem far_long (a1 a2 a3 a4:Option Addr) (c1 c2 c3 c4:Nat) (S:Sp) (w:World) (h:10<S.ds.length∨(S.ds.length≤10∧50<S.rs.length)∨(S.ds.length≤10∧S.rs.length≤50∧100<S.ss.length)∨(S.ds.length≤10∧S.rs.length≤50∧S.ss.length≤100∧40<S.cs.length)) :
  Calls Tryz.prog 39 #[.agg #[.slice a1 S.ds.length c1,.slice a2 S.rs.length c2,.slice a3 S.ss.length c3,.slice a4 S.cs.length c4]] w (FarEnds S w):=by
 have HB:=Lib.hid (show Below w.heap.size w (w.alloc (.cells #[.slice a1 S.ds.length c1,.slice a2 S.rs.length c2,.slice a3 S.ss.length c3,.slice a4 S.cs.length c4] 27)) from (Below.refl _ w).alloc (Nat.le_refl _) _)
 rcases h with h | ⟨h1,h⟩ | ⟨h1,h2,h⟩ | ⟨h1,h2,h3,h⟩
 all_goals
  go_enter Tryz.func39,Tryz.ntmps39
  go_wp2
  go_ret
  exact farEnds_yes rfl HB.out
set_option maxRecDepth 100000 in
set_option maxHeartbeats 6400000 in
theorem far_short (a1 a2 a3 a4:Option Addr) (c1 c2 c3 c4:Nat) (S:Sp) (w:World) (f:Nat→Value) (hsp:SpRd w (.slice a1 S.ds.length c1) (.slice a2 S.rs.length c2) (.slice a3 S.ss.length c3) (.slice a4 S.cs.length c4) f S)
  (l1:S.ds.length≤10) (l2:S.rs.length≤50) (l3:S.ss.length≤100) (l4:S.cs.length≤40) :
  Calls Tryz.prog 39 #[.agg #[.slice a1 S.ds.length c1,.slice a2 S.rs.length c2,.slice a3 S.ss.length c3,.slice a4 S.cs.length c4]] w (FarEnds S w):=by
 have hb0:Below w.heap.size w (w.alloc (.cells #[.slice a1 S.ds.length c1,.slice a2 S.rs.length c2,.slice a3 S.ss.length c3,.slice a4 S.cs.length c4] 27)):=(Below.refl _ w).alloc (Nat.le_refl _) _
 have k0:Blk (w.alloc (.cells #[.slice a1 S.ds.length c1,.slice a2 S.rs.length c2,.slice a3 S.ss.length c3,.slice a4 S.cs.length c4] 27)) w.heap.size 27 #[.slice a1 S.ds.length c1,.slice a2 S.rs.length c2,.slice a3 S.ss.length c3,.slice a4 S.cs.length c4]:=Blk.new w _ _
 obtain ⟨W,hW⟩:∃ W,W=w.alloc (.cells #[.slice a1 S.ds.length c1,.slice a2 S.rs.length c2,.slice a3 S.ss.length c3,.slice a4 S.cs.length c4] 27):=⟨_,rfl⟩
 have HW:=Lib.hid hW
 rw [← hW] at hb0 k0
 have HB:=Lib.hid hb0
 have HSP:=Lib.hid (hsp.later hb0)
 have HK:=Lib.hid k0
 have g10:decide ((10:Int)<(S.ds.length:Int))=false:=by rw [decide_eq_false_iff_not];omega
 have g50:decide ((50:Int)<(S.rs.length:Int))=false:=by rw [decide_eq_false_iff_not];omega
 have g100:decide ((100:Int)<(S.ss.length:Int))=false:=by rw [decide_eq_false_iff_not];omega
 have g40:decide ((40:Int)<(S.cs.length:Int))=false:=by rw [decide_eq_false_iff_not];omega
 clear hW hb0 k0 hsp
 go_enter Tryz.func39,Tryz.ntmps39
 go_wp2
 rw [← HW.out]
 clear HW g10 g50 g100 g40
 obtain ⟨s0,s1,s2,s3⟩:=HK.out.four
 go_loop [3,4] (fun u x=>∃ (k:Nat) (b:Bool),k≤S.ds.length∧x = .int .i64 k∧u = .bool b∧RowKit.Hid (b=false→(∀ j (h:j<S.ds.length),j<k→S.ds[j].name.size≤100))) (fun _ x=>S.ds.length-(intOf x).toNat)
 case atStart=>exact ⟨0,false,by omega,rfl,rfl,Lib.hid (fun _=>fun j _ hj=>by omega)⟩
 obtain ⟨k,b0,hk,rfl,rfl,hN⟩:=hrel
 by_cases hlt:k<S.ds.length
 ·obtain ⟨bb,o,c,ev,hbl,r0,_⟩:=HSP.out.dAt k hlt
  cases ev
  have hk2:(k:Int)<(S.ds.length:Int):=by omega
  cases b0 with
  | true =>
   go_wp2
   go_round
   case rel=>exact ⟨k+1,true,by omega,by go_num,rfl,Lib.hid (fun h=>by cases h)⟩
   case measure=>simp [intOf];omega
  | false =>
   have HN:=Lib.hid (hN.out rfl)
   clear hN
   by_cases hsz:S.ds[k].name.size≤100
   ·have hd:decide ((100:Int)<(S.ds[k].name.size:Int))=false:=by rw [decide_eq_false_iff_not];omega
    have HZ:=Lib.hid hsz
    clear hsz
    go_wp2
    go_round
    case rel=>exact ⟨k+1,false,by omega,by go_num,rfl,Lib.hid (fun _=>upto_step (p:=fun x=>x.name.size≤100) hlt HN.out HZ.out)⟩
    case measure=>simp [intOf];omega
   ·have hd:decide ((100:Int)<(S.ds[k].name.size:Int))=true:=by rw [decide_eq_true_iff];omega
    clear hsz
    go_wp2
    go_round
    case rel=>exact ⟨k+1,true,by omega,by go_num,rfl,Lib.hid (fun h=>by cases h)⟩
    case measure=>simp [intOf];omega
 ·have hke:k=S.ds.length:=by omega
  have hk2:¬ ((k:Int)<(S.ds.length:Int)):=by omega
  have HN0:=hN
  rw [hke] at HN0
  clear hN
  go_wp2
  clear hke hk2 hlt hk
  go_loop [3,5] (fun u x=>∃ (k:Nat) (b:Bool),k≤S.rs.length∧x = .int .i64 k∧u = .bool b∧RowKit.Hid (b=false→(∀ j (h:j<S.ds.length),j<S.ds.length→S.ds[j].name.size≤100)∧(∀ j (h:j<S.rs.length),j<k→S.rs[j].name.size≤100))) (fun _ x=>S.rs.length-(intOf x).toNat)
  case atStart=>exact ⟨0,b0,by omega,rfl,rfl,Lib.hid (fun hb=>⟨HN0.out hb,fun j _ hj=>by omega⟩)⟩
  clear HN0
  obtain ⟨k,b1,hk,rfl,rfl,hN⟩:=hrel
  by_cases hlt:k<S.rs.length
  ·obtain ⟨bb,o,c,ev,hbl,r0,_⟩:=HSP.out.rAt k hlt
   cases ev
   have hk2:(k:Int)<(S.rs.length:Int):=by omega
   cases b1 with
   | true =>
    go_wp2
    go_round
    case rel=>exact ⟨k+1,true,by omega,by go_num,rfl,Lib.hid (fun h=>by cases h)⟩
    case measure=>simp [intOf];omega
   | false =>
    have HN:=Lib.hid (hN.out rfl)
    clear hN
    by_cases hsz:S.rs[k].name.size≤100
    ·have hd:decide ((100:Int)<(S.rs[k].name.size:Int))=false:=by rw [decide_eq_false_iff_not];omega
     have HZ:=Lib.hid hsz
     clear hsz
     go_wp2
     go_round
     case rel=>exact ⟨k+1,false,by omega,by go_num,rfl,Lib.hid (fun _=>⟨HN.out.1,upto_step (p:=fun x=>x.name.size≤100) hlt (HN.out.2) HZ.out⟩)⟩
     case measure=>simp [intOf];omega
    ·have hd:decide ((100:Int)<(S.rs[k].name.size:Int))=true:=by rw [decide_eq_true_iff];omega
     clear hsz
     go_wp2
     go_round
     case rel=>exact ⟨k+1,true,by omega,by go_num,rfl,Lib.hid (fun h=>by cases h)⟩
     case measure=>simp [intOf];omega
  ·have hke:k=S.rs.length:=by omega
   have hk2:¬ ((k:Int)<(S.rs.length:Int)):=by omega
   have HN1:=hN
   rw [hke] at HN1
   clear hN
   go_wp2
   clear hke hk2 hlt hk
   go_loop [3,6] (fun u x=>∃ (k:Nat) (b:Bool),k≤S.ss.length∧x = .int .i64 k∧u = .bool b∧RowKit.Hid (b=false→(∀ j (h:j<S.ds.length),j<S.ds.length→S.ds[j].name.size≤100)∧(∀ j (h:j<S.rs.length),j<S.rs.length→S.rs[j].name.size≤100)∧(∀ j (h:j<S.ss.length),j<k→S.ss[j].name.size≤100∧S.ss[j].parts.length≤20))) (fun _ x=>S.ss.length-(intOf x).toNat)
   case atStart=>exact ⟨0,b1,by omega,rfl,rfl,Lib.hid (fun hb=>⟨(HN1.out hb).1,(HN1.out hb).2,fun j _ hj=>by omega⟩)⟩
   clear HN1
   obtain ⟨k,b2,hk,rfl,rfl,hN⟩:=hrel
   by_cases hlt:k<S.ss.length
   ·obtain ⟨bb,o,c,ev,hbl,r0,_,_,_,r4⟩:=HSP.out.sAt k hlt
    obtain ⟨ap,cp,efp⟩:=(HSP.out.p k hlt).form
    rw [List.length_map] at efp
    rw [efp] at r4
    clear efp
    cases ev
    have hk2:(k:Int)<(S.ss.length:Int):=by omega
    cases b2 with
    | true =>
     go_wp2
     go_round
     case rel=>exact ⟨k+1,true,by omega,by go_num,rfl,Lib.hid (fun h=>by cases h)⟩
     case measure=>simp [intOf];omega
    | false =>
     have HN:=Lib.hid (hN.out rfl)
     clear hN
     by_cases hsz:S.ss[k].name.size≤100
     ·have hd:decide ((100:Int)<(S.ss[k].name.size:Int))=false:=by rw [decide_eq_false_iff_not];omega
      have HZ:=Lib.hid hsz
      clear hsz
      by_cases hpz:S.ss[k].parts.length≤20
      ·have hd2:decide ((20:Int)<(S.ss[k].parts.length:Int))=false:=by rw [decide_eq_false_iff_not];omega
       have HZ2:=Lib.hid hpz
       clear hpz
       go_wp2
       go_round
       case rel=>exact ⟨k+1,false,by omega,by go_num,rfl,Lib.hid (fun _=>⟨HN.out.1,HN.out.2.1,upto_step (p:=fun x=>x.name.size≤100∧x.parts.length≤20) hlt (HN.out.2.2) ⟨HZ.out,HZ2.out⟩⟩)⟩
       case measure=>simp [intOf];omega
      ·have hd2:decide ((20:Int)<(S.ss[k].parts.length:Int))=true:=by rw [decide_eq_true_iff];omega
       clear hpz
       go_wp2
       go_round
       case rel=>exact ⟨k+1,true,by omega,by go_num,rfl,Lib.hid (fun h=>by cases h)⟩
       case measure=>simp [intOf];omega
     ·have hd:decide ((100:Int)<(S.ss[k].name.size:Int))=true:=by rw [decide_eq_true_iff];omega
      clear hsz
      go_wp2
      go_round
      case rel=>exact ⟨k+1,true,by omega,by go_num,rfl,Lib.hid (fun h=>by cases h)⟩
      case measure=>simp [intOf];omega
   ·have hke:k=S.ss.length:=by omega
    have hk2:¬ ((k:Int)<(S.ss.length:Int)):=by omega
    have HN2:=hN
    rw [hke] at HN2
    clear hN
    go_wp2
    clear hke hk2 hlt hk
    go_loop [3,7] (fun u x=>∃ (k:Nat) (b:Bool),k≤S.cs.length∧x = .int .i64 k∧u = .bool b∧RowKit.Hid (b=false→(∀ j (h:j<S.ds.length),j<S.ds.length→S.ds[j].name.size≤100)∧(∀ j (h:j<S.rs.length),j<S.rs.length→S.rs[j].name.size≤100)∧(∀ j (h:j<S.ss.length),j<S.ss.length→S.ss[j].name.size≤100∧S.ss[j].parts.length≤20)∧(∀ j (h:j<S.cs.length),j<k→S.cs[j].name.size≤100))) (fun _ x=>S.cs.length-(intOf x).toNat)
    case atStart=>exact ⟨0,b2,by omega,rfl,rfl,Lib.hid (fun hb=>⟨(HN2.out hb).1,(HN2.out hb).2.1,(HN2.out hb).2.2,fun j _ hj=>by omega⟩)⟩
    clear HN2
    obtain ⟨k,b3,hk,rfl,rfl,hN⟩:=hrel
    by_cases hlt:k<S.cs.length
    ·obtain ⟨bb,o,c,ev,hbl,r0,_⟩:=HSP.out.cAt k hlt
     cases ev
     have hk2:(k:Int)<(S.cs.length:Int):=by omega
     cases b3 with
     | true =>
      go_wp2
      go_round
      case rel=>exact ⟨k+1,true,by omega,by go_num,rfl,Lib.hid (fun h=>by cases h)⟩
      case measure=>simp [intOf];omega
     | false =>
      have HN:=Lib.hid (hN.out rfl)
      clear hN
      by_cases hsz:S.cs[k].name.size≤100
      ·have hd:decide ((100:Int)<(S.cs[k].name.size:Int))=false:=by rw [decide_eq_false_iff_not];omega
       have HZ:=Lib.hid hsz
       clear hsz
       go_wp2
       go_round
       case rel=>exact ⟨k+1,false,by omega,by go_num,rfl,Lib.hid (fun _=>⟨HN.out.1,HN.out.2.1,HN.out.2.2.1,upto_step (p:=fun x=>x.name.size≤100) hlt (HN.out.2.2.2) HZ.out⟩)⟩
       case measure=>simp [intOf];omega
      ·have hd:decide ((100:Int)<(S.cs[k].name.size:Int))=true:=by rw [decide_eq_true_iff];omega
       clear hsz
       go_wp2
       go_round
       case rel=>exact ⟨k+1,true,by omega,by go_num,rfl,Lib.hid (fun h=>by cases h)⟩
       case measure=>simp [intOf];omega
    ·have hke:k=S.cs.length:=by omega
     have hk2:¬ ((k:Int)<(S.cs.length:Int)):=by omega
     have HN3:=hN
     rw [hke] at HN3
     clear hN
     go_wp2
     go_ret
     exact farEnds_of (b:=b3) rfl (fun h=>by
      obtain ⟨n1,n2,n3,n4⟩:=HN3.out h
      exact ⟨by omega,by omega,by omega,by omega,fun x hx=>by have:=all_of_get (p:=fun x=>x.name.size≤100) n1 x hx;omega,fun x hx=>by have:=all_of_get (p:=fun x=>x.name.size≤100) n2 x hx;omega,fun x hx=>by have:=(all_of_get (p:=fun x=>x.name.size≤100∧x.parts.length≤20) n3 x hx).1;omega,fun x hx=>by have:=all_of_get (p:=fun x=>x.name.size≤100) n4 x hx;omega,fun x hx=>by have:=(all_of_get (p:=fun x=>x.name.size≤100∧x.parts.length≤20) n3 x hx).2;omega⟩) HB.out
theorem far_any (v1 v2 v3 v4:Value) (S:Sp) (w:World) (f:Nat→Value) (hsp:SpRd w v1 v2 v3 v4 f S) :
  Calls Tryz.prog 39 #[.agg #[v1,v2,v3,v4]] w (FarEnds S w):=by
 obtain ⟨⟨a1,c1,rfl⟩,⟨a2,c2,rfl⟩,⟨a3,c3,rfl⟩,⟨a4,c4,rfl⟩⟩:=hsp.forms
 by_cases h:S.ds.length≤10∧S.rs.length≤50∧S.ss.length≤100∧S.cs.length≤40
 ·obtain ⟨l1,l2,l3,l4⟩:=h
  exact far_short a1 a2 a3 a4 c1 c2 c3 c4 S w f hsp l1 l2 l3 l4
 ·exact far_long a1 a2 a3 a4 c1 c2 c3 c4 S w (by omega)
end Go.Proofs.YthhfmppealmblaaGreatDoor
namespace Go.Proofs.YthhfmppealmblaaGreatDoor
open Go.RowKit
def keysP (ds:List Dv):Int:=ds.foldl (fun a d=>max a (d.hi-d.lo+1)) 0
theorem keysP_take {ds:List Dv} {i:Nat} (h:i<ds.length):keysP (ds.take (i+1))=max (keysP (ds.take i)) (ds[i].hi-ds[i].lo+1):=by
 unfold keysP
 rw [List.take_succ_eq_append_getElem h,List.foldl_append]
 rfl
structure Small (S:Sp) (l:List Ev):Prop where
 ok:SpOk S
 len:l.length≤40∨20000<l.length∧l.length≤20100
 few:(checkP S).2=0→(pipesP S).1 * keysP S.ds * (S.ss.length+1)≤5000
def GreatE (S:Sp) (l:List Ev) (w:World) (e:Ending) (w':World):Prop:=∃ b,e = .returned (.bool b)∧(b=false→Small S l)∧Below w.heap.size w w'
theorem greatE_yes {S:Sp} {l:List Ev} {w w':World} (hb:Below w.heap.size w w'):GreatE S l w (.returned (.bool true)) w':=⟨true,rfl,(fun h=>by cases h),hb⟩
set_option maxRecDepth 100000 in
set_option maxHeartbeats 6400000 in
theorem great_any (v1 v2 v3 v4:Value) (S:Sp) (f:Nat→Value) (l:List Ev) (vl:Value) (w:World) (hsp:SpRd w v1 v2 v3 v4 f S) (hlv:ARd w vl 5 (l.map evC)) :
  Calls Tryz.prog 12 #[.agg #[v1,v2,v3,v4],vl] w (GreatE S l w):=by
 obtain ⟨al,cl,evl⟩:=hlv.evForm
 subst evl
 have hal:=(Below.refl _ w).alloc (Nat.le_refl w.heap.size) (.cells #[v1,v2,v3,v4] 27)
 have hk:=Blk.new w 27 #[v1,v2,v3,v4]
 have HFA:=Lib.hid (far_any v1 v2 v3 v4 S _ f (hsp.later hal))
 have HAL:=Lib.hid hal
 have HK:=Lib.hid hk
 have HSP:=Lib.hid hsp
 obtain ⟨s0,s1,s2,s3⟩:=hk.four
 clear hal hk hsp hlv
 go_enter Tryz.func12,Tryz.ntmps12
 go_wp2_with fail
 refine (HFA.out).mono ?_
 rintro e W ⟨b,rfl,hb0,hb⟩
 have HB1:=Lib.hid (below_step HAL.out hb)
 have HK1:=Lib.hid (HK.out.below hb)
 clear hb HFA HAL HK s0 s1 s2 s3
 cases b with
 | true =>
  go_wp2
  go_ret
  exact greatE_yes HB1.out
 | false =>
 have ok:=hb0 rfl
 have HOK:=Lib.hid ok
 have HRP:=Lib.hid (rpipes_any v1 v2 v3 v4 S ok W f (HSP.out.later HB1.out))
 clear hb0 ok
 by_cases g1:40<l.length
 ·have q1:(40:Int)<(l.length:Int):=by omega
  have d1:decide ((40:Int)<(l.length:Int))=true:=decide_eq_true q1
  by_cases g2:l.length≤20000
  ·have q2:(l.length:Int)≤20000:=by omega
   go_wp2
   go_ret
   exact greatE_yes HB1.out
  have d2:decide ((l.length:Int)≤20000)=false:=decide_eq_false (by omega)
  by_cases g3:20100<l.length
  ·have q3:(20100:Int)<(l.length:Int):=by omega
   go_wp2
   go_ret
   exact greatE_yes HB1.out
  have d3:decide ((20100:Int)<(l.length:Int))=false:=decide_eq_false (by omega)
  have HLE:RowKit.Hid (l.length≤40∨20000<l.length∧l.length≤20100):=Lib.hid (.inr ⟨by omega,by omega⟩)
  clear q1 g1 g2 g3
  obtain ⟨u0,u1,u2,u3⟩:=HK1.out.four
  go_wp2_with fail
  refine (HRP.out).mono ?_
  rintro e W2 ⟨rfl,hb2⟩
  have HB2:=Lib.hid (below_step HB1.out hb2)
  have HK2:=Lib.hid (HK1.out.below hb2)
  clear hb2 HRP HK1 HB1 u0 u1 u2 u3
  by_cases hc:(checkP S).2=0
  case neg =>
   have HN:=Lib.hid (show GreatE S l w (.returned (.bool false)) W2 from ⟨false,rfl,fun _=>⟨HOK.out,HLE.out,fun h=>absurd h hc⟩,HB2.out⟩)
   obtain ⟨⟨pn,pe⟩,hpe⟩:∃ q,pipesP S=q:=⟨_,rfl⟩
   have hpe2:pe≠0:=by
    have:=congrArg Prod.snd hpe
    unfold pipesP at this
    rw [if_neg hc] at this
    simp only at this
    rw [← this]
    exact hc
   rw [hpe]
   have q9:(pe==0)=false:=by simpa using hpe2
   clear hc hpe hpe2
   go_wp2
   go_ret
   exact HN.out
  have hsg:=spGood hc
  have hpe:pipesP S=(cntP S.rs,0):=if_pos hc
  obtain ⟨n0,n1⟩:=cntP_bound hsg.r
  have n2:=hsg.rs
  have n3:=hsg.ss
  have n4:=hsg.ds
  rw [hpe]
  obtain ⟨pn,hpn⟩:∃ pn,cntP S.rs=pn:=⟨_,rfl⟩
  rw [hpn] at hpe n0 n1 ⊢
  have HPE:=Lib.hid hpe
  have HSG:=Lib.hid hsg
  obtain ⟨⟨a1,c1,e1⟩,_,⟨a3,c3,e3⟩,_⟩:=HSP.out.forms
  subst e1 e3
  have HK0:RowKit.Hid (keysP (S.ds.take 0)=0):=Lib.hid rfl
  have HW0:=Lib.hid (Below.refl W2.heap.size W2)
  clear hc hsg hpe hpn
  go_wp2
  go_loopw [7,8] (fun k x wr=>∃ (i:Nat) (kk:Int),i≤S.ds.length∧x = .int .i64 i∧k = .int .i64 kk∧0≤kk∧kk≤61∧RowKit.Hid (keysP (S.ds.take i)=kk)∧RowKit.Hid (Below W2.heap.size W2 wr)) (fun _ x _=>S.ds.length-(intOf x).toNat)
  case atStart=>exact ⟨0,0,Nat.zero_le _,rfl,rfl,Int.le_refl _,by omega,HK0,HW0⟩
  clear HK0 HW0
  obtain ⟨i,kk,hi,rfl,rfl,hk0,hk1,hkk,hW⟩:=hrel
  have HKR:=Lib.hid (HK2.out.below hW.out)
  obtain ⟨t0,t1,t2,t3⟩:=HKR.out.four
  by_cases hil:i<S.ds.length
  ·have hi2:(i:Int)<(S.ds.length:Int):=by omega
   obtain ⟨b,o,c',ev,hbl,r0,r1,r2⟩:=(HSP.out.later (below_step HB2.out hW.out)).dAt i hil
   cases ev
   have hdk:=dv_ok (HSG.out.d _ (List.getElem_mem hil))
   have HKT:=Lib.hid (keysP_take hil)
   obtain ⟨lo,hlo⟩:∃ x,S.ds[i].lo=x:=⟨_,rfl⟩
   obtain ⟨hi',hhi⟩:∃ x,S.ds[i].hi=x:=⟨_,rfl⟩
   rw [hlo] at r1 hdk HKT
   rw [hhi] at r2 hdk HKT
   rw [hkk.out] at HKT
   have e4:IntKind.i64.wrap (hi'-lo)=hi'-lo:=IntWalk.i64_in _ (by omega)
   have e5:IntKind.i64.wrap (hi'-lo+1)=hi'-lo+1:=IntWalk.i64_in _ (by omega)
   have hdr:Below wr.heap.size wr wr.drew:=(Below.refl _ _).drew
   have HWD:=Lib.hid (below_step hW.out hdr)
   clear hlo hhi hkk hbl hdr r0
   have hmx:max kk (hi'-lo+1)=if kk≤hi'-lo+1 then hi'-lo+1 else kk:=by
    rw [Int.max_def]
   have HMX:=Lib.hid hmx
   clear hmx
   go_upto_region 10 with fail
   go_region
   have hm0:0≤max kk (hi'-lo+1):=Int.le_trans hk0 (Int.le_max_left _ _)
   have hm1:max kk (hi'-lo+1)≤61:=Int.max_le.2 ⟨hk1,by omega⟩
   go_wp2
   go_roundw
   case rel=>exact ⟨i+1,max kk (hi'-lo+1),by omega,by go_num,rfl,hm0,hm1,HKT,HWD⟩
   case measure=>simp [intOf];omega
  ·have hi2:¬ (i:Int)<(S.ds.length:Int):=by omega
   have hie:i=S.ds.length:=by omega
   have hkk2:=hkk.out
   rw [hie,List.take_length] at hkk2
   obtain ⟨m,hm⟩:∃ m:Int,(S.ss.length:Int)+1=m:=⟨_,rfl⟩
   have hz0:0≤pn * kk:=Int.mul_nonneg n0 hk0
   have hz1:pn * kk≤3880 * 61:=Int.mul_le_mul (by omega) hk1 hk0 (by omega)
   obtain ⟨z,hz⟩:∃ z,pn * kk=z:=⟨_,rfl⟩
   rw [hz] at hz0 hz1
   have hy0:0≤z * m:=Int.mul_nonneg hz0 (by omega)
   have hy1:z * m≤3880 * 61 * 81:=Int.mul_le_mul hz1 (by omega) (by omega) (by omega)
   obtain ⟨y,hy⟩:∃ y,z * m=y:=⟨_,rfl⟩
   rw [hy] at hy0 hy1
   have e4:IntKind.i64.wrap (pn * kk)=z:=by rw [hz];exact IntWalk.i64_in _ (by omega)
   have e5:IntKind.i64.wrap ((S.ss.length:Int)+1)=m:=by rw [hm];exact IntWalk.i64_in _ (by omega)
   have e6:IntKind.i64.wrap (z * m)=y:=by rw [hy];exact IntWalk.i64_in _ (by omega)
   have HFW:=Lib.hid (show ¬ 5000<y→(checkP S).2=0→(pipesP S).1 * keysP S.ds * (S.ss.length+1)≤5000 from fun h _=>by rw [HPE.out,hkk2];simp only;rw [hz,hm,hy];omega)
   have HB9:=Lib.hid (below_step HB2.out hW.out)
   clear hz hm hy hie hkk2 hkk
   by_cases h5:5000<y
   ·go_wp2
    go_ret
    exact ⟨true,by simp,(fun h=>by cases h),HB9.out⟩
   ·have d5:decide (5000<y)=false:=decide_eq_false h5
    go_wp2
    go_ret
    exact ⟨false,by simp,(fun _=>⟨HOK.out,HLE.out,HFW.out h5⟩),HB9.out⟩
 ·have d1:decide ((40:Int)<(l.length:Int))=false:=decide_eq_false (by omega)
  have d3:decide ((20100:Int)<(l.length:Int))=false:=decide_eq_false (by omega)
  have HLE:RowKit.Hid (l.length≤40∨20000<l.length∧l.length≤20100):=Lib.hid (.inl (by omega))
  clear g1
  obtain ⟨u0,u1,u2,u3⟩:=HK1.out.four
  go_wp2_with fail
  refine (HRP.out).mono ?_
  rintro e W2 ⟨rfl,hb2⟩
  have HB2:=Lib.hid (below_step HB1.out hb2)
  have HK2:=Lib.hid (HK1.out.below hb2)
  clear hb2 HRP HK1 HB1 u0 u1 u2 u3
  by_cases hc:(checkP S).2=0
  case neg =>
   have HN:=Lib.hid (show GreatE S l w (.returned (.bool false)) W2 from ⟨false,rfl,fun _=>⟨HOK.out,HLE.out,fun h=>absurd h hc⟩,HB2.out⟩)
   obtain ⟨⟨pn,pe⟩,hpe⟩:∃ q,pipesP S=q:=⟨_,rfl⟩
   have hpe2:pe≠0:=by
    have:=congrArg Prod.snd hpe
    unfold pipesP at this
    rw [if_neg hc] at this
    simp only at this
    rw [← this]
    exact hc
   rw [hpe]
   have q9:(pe==0)=false:=by simpa using hpe2
   clear hc hpe hpe2
   go_wp2
   go_ret
   exact HN.out
  have hsg:=spGood hc
  have hpe:pipesP S=(cntP S.rs,0):=if_pos hc
  obtain ⟨n0,n1⟩:=cntP_bound hsg.r
  have n2:=hsg.rs
  have n3:=hsg.ss
  have n4:=hsg.ds
  rw [hpe]
  obtain ⟨pn,hpn⟩:∃ pn,cntP S.rs=pn:=⟨_,rfl⟩
  rw [hpn] at hpe n0 n1 ⊢
  have HPE:=Lib.hid hpe
  have HSG:=Lib.hid hsg
  obtain ⟨⟨a1,c1,e1⟩,_,⟨a3,c3,e3⟩,_⟩:=HSP.out.forms
  subst e1 e3
  have HK0:RowKit.Hid (keysP (S.ds.take 0)=0):=Lib.hid rfl
  have HW0:=Lib.hid (Below.refl W2.heap.size W2)
  clear hc hsg hpe hpn
  go_wp2
  go_loopw [7,8] (fun k x wr=>∃ (i:Nat) (kk:Int),i≤S.ds.length∧x = .int .i64 i∧k = .int .i64 kk∧0≤kk∧kk≤61∧RowKit.Hid (keysP (S.ds.take i)=kk)∧RowKit.Hid (Below W2.heap.size W2 wr)) (fun _ x _=>S.ds.length-(intOf x).toNat)
  case atStart=>exact ⟨0,0,Nat.zero_le _,rfl,rfl,Int.le_refl _,by omega,HK0,HW0⟩
  clear HK0 HW0
  obtain ⟨i,kk,hi,rfl,rfl,hk0,hk1,hkk,hW⟩:=hrel
  have HKR:=Lib.hid (HK2.out.below hW.out)
  obtain ⟨t0,t1,t2,t3⟩:=HKR.out.four
  by_cases hil:i<S.ds.length
  ·have hi2:(i:Int)<(S.ds.length:Int):=by omega
   obtain ⟨b,o,c',ev,hbl,r0,r1,r2⟩:=(HSP.out.later (below_step HB2.out hW.out)).dAt i hil
   cases ev
   have hdk:=dv_ok (HSG.out.d _ (List.getElem_mem hil))
   have HKT:=Lib.hid (keysP_take hil)
   obtain ⟨lo,hlo⟩:∃ x,S.ds[i].lo=x:=⟨_,rfl⟩
   obtain ⟨hi',hhi⟩:∃ x,S.ds[i].hi=x:=⟨_,rfl⟩
   rw [hlo] at r1 hdk HKT
   rw [hhi] at r2 hdk HKT
   rw [hkk.out] at HKT
   have e4:IntKind.i64.wrap (hi'-lo)=hi'-lo:=IntWalk.i64_in _ (by omega)
   have e5:IntKind.i64.wrap (hi'-lo+1)=hi'-lo+1:=IntWalk.i64_in _ (by omega)
   have hdr:Below wr.heap.size wr wr.drew:=(Below.refl _ _).drew
   have HWD:=Lib.hid (below_step hW.out hdr)
   clear hlo hhi hkk hbl hdr r0
   have hmx:max kk (hi'-lo+1)=if kk≤hi'-lo+1 then hi'-lo+1 else kk:=by
    rw [Int.max_def]
   have HMX:=Lib.hid hmx
   clear hmx
   go_upto_region 10 with fail
   go_region
   have hm0:0≤max kk (hi'-lo+1):=Int.le_trans hk0 (Int.le_max_left _ _)
   have hm1:max kk (hi'-lo+1)≤61:=Int.max_le.2 ⟨hk1,by omega⟩
   go_wp2
   go_roundw
   case rel=>exact ⟨i+1,max kk (hi'-lo+1),by omega,by go_num,rfl,hm0,hm1,HKT,HWD⟩
   case measure=>simp [intOf];omega
  ·have hi2:¬ (i:Int)<(S.ds.length:Int):=by omega
   have hie:i=S.ds.length:=by omega
   have hkk2:=hkk.out
   rw [hie,List.take_length] at hkk2
   obtain ⟨m,hm⟩:∃ m:Int,(S.ss.length:Int)+1=m:=⟨_,rfl⟩
   have hz0:0≤pn * kk:=Int.mul_nonneg n0 hk0
   have hz1:pn * kk≤3880 * 61:=Int.mul_le_mul (by omega) hk1 hk0 (by omega)
   obtain ⟨z,hz⟩:∃ z,pn * kk=z:=⟨_,rfl⟩
   rw [hz] at hz0 hz1
   have hy0:0≤z * m:=Int.mul_nonneg hz0 (by omega)
   have hy1:z * m≤3880 * 61 * 81:=Int.mul_le_mul hz1 (by omega) (by omega) (by omega)
   obtain ⟨y,hy⟩:∃ y,z * m=y:=⟨_,rfl⟩
   rw [hy] at hy0 hy1
   have e4:IntKind.i64.wrap (pn * kk)=z:=by rw [hz];exact IntWalk.i64_in _ (by omega)
   have e5:IntKind.i64.wrap ((S.ss.length:Int)+1)=m:=by rw [hm];exact IntWalk.i64_in _ (by omega)
   have e6:IntKind.i64.wrap (z * m)=y:=by rw [hy];exact IntWalk.i64_in _ (by omega)
   have HFW:=Lib.hid (show ¬ 5000<y→(checkP S).2=0→(pipesP S).1 * keysP S.ds * (S.ss.length+1)≤5000 from fun h _=>by rw [HPE.out,hkk2];simp only;rw [hz,hm,hy];omega)
   have HB9:=Lib.hid (below_step HB2.out hW.out)
   clear hz hm hy hie hkk2 hkk
   by_cases h5:5000<y
   ·go_wp2
    go_ret
    exact ⟨true,by simp,(fun h=>by cases h),HB9.out⟩
   ·have d5:decide (5000<y)=false:=decide_eq_false h5
    go_wp2
    go_ret
    exact ⟨false,by simp,(fun _=>⟨HOK.out,HLE.out,HFW.out h5⟩),HB9.out⟩
end Go.Proofs.YthhfmppealmblaaGreatDoor
namespace Go.Proofs.YthhfmppealmblaaGreatDoor
open Go.RowKit
theorem ticks_mom {l:List Ev} (ha:Asc l):(momI l l.length).map (fun i=>(l.getD i ev0).1)=ticksL [] l:=by
 refine int_asc_ext ?_ (asc_ticksL List.Pairwise.nil) fun t=>?_
 ·have h:=momP_asc (B:=fun _ _=>false) ha (0,0)
  unfold momP at h
  rw [List.pairwise_map] at h ⊢
  exact h
 ·rw [List.mem_map,mem_ticksL]
  constructor
  ·rintro ⟨i,hi,rfl⟩
   have h:=(mem_momI.1 hi).1
   rw [getD_at h]
   exact .inr ⟨_,List.getElem_mem h,rfl⟩
  ·rintro (h | ⟨x,hx,rfl⟩)
   ·cases h
   ·obtain ⟨j,hj,rfl⟩:=List.getElem_of_mem hx
    obtain ⟨hle,hxx⟩:=upN_spec ha l[j].1
    have hjN:=(hxx j hj).2 (Int.le_refl _)
    obtain ⟨i,hi⟩:∃ i,upN l l[j].1=i+1:=⟨upN l l[j].1-1,by omega⟩
    have hil:i<l.length:=by omega
    have h1:=(hxx i hil).1 (by omega)
    have hm:momB l i=true:=by
     by_cases e:i+1=l.length
     ·exact momB_last e
     ·rw [momB_is (by omega),decide_eq_true_iff]
      have h2:¬ l[i+1].1≤l[j].1:=fun q=>by have:=(hxx (i+1) (by omega)).2 q;omega
      omega
    have h3:=ha j i hj hil (by omega)
    exact ⟨i,mem_momI.2 ⟨hil,hm⟩,by rw [getD_at hil];omega⟩
theorem row_formN {W:World} {base:Nat} {t:TypeId} {k n:Nat} {v:Value} {xs:List Value} (h:W.ownsRow base t k v n xs):∃ a c,v = .slice a n c:=by
 rcases h.2 with ⟨rfl,rfl⟩ | ⟨g,cap,cur,rfl,_⟩
 ·exact ⟨_,_,rfl⟩
 ·exact ⟨_,_,rfl⟩
end Go.Proofs.YthhfmppealmblaaGreatDoor
namespace Go.Proofs.YthhfmppealmblaaGreatDoor
open Go.RowKit
end Go.Proofs.YthhfmppealmblaaGreatDoor
namespace Go.Proofs.YthhfmppealmblaaGreatDoor
open Go.RowKit
def onI (b:Nat→Bool) (n:Nat):List Int:=((List.range n).filter b).map fun (i:Nat)=>(i:Int)
theorem onI_succ (b:Nat→Bool) (n:Nat):onI b (n+1)=onI b n++if b n=true then [(n:Int)] else []:=by
 unfold onI
 rw [List.range_succ,List.filter_append,List.map_append]
 congr 1
 by_cases h:b n=true
 ·rw [if_pos h,List.filter_cons_of_pos h];rfl
 ·rw [if_neg h,List.filter_cons_of_neg h];rfl
theorem len_onI (b:Nat→Bool) (n:Nat):(onI b n).length≤n:=by
 unfold onI
 rw [List.length_map]
 have:=List.length_filter_le b (List.range n)
 rwa [List.length_range] at this
end Go.Proofs.YthhfmppealmblaaGreatDoor
namespace Go.Proofs.YthhfmppealmblaaGreatDoor
theorem len_sub {α:Type} [DecidableEq α]:∀ {l m:List α},l.Nodup→(∀ x∈l,x∈m)→l.length≤m.length
 | [],_,_,_=>Nat.zero_le _
 | a :: l,m,h,hs=>by
  have h1:=List.nodup_cons.1 h
  have ha:=hs a (by simp)
  have ih:=len_sub (l:=l) (m:=m.erase a) h1.2 fun x hx=>(List.mem_erase_of_ne (fun e=>h1.1 (by rw [← e];exact hx))).2 (hs x (by simp [hx]))
  rw [List.length_erase_of_mem ha] at ih
  have:=List.length_pos_of_mem ha
  rw [List.length_cons]
  omega
theorem nodup_pp {l:List Pp} (h:l.Pairwise ppLt):l.Nodup:=h.imp fun {a b} q e=>by subst e;exact ppLt_irrefl _ q
theorem upN_dep {l:List Ev} {t u:Int} (h:∀ x∈l,x.1≤t ↔ x.1≤u):upN l t=upN l u:=by
 induction l with
 | nil=>rfl
 | cons x l ih =>
  rw [upN_cons,upN_cons,ih fun y hy=>h y (by simp [hy])]
  have:=h x (by simp)
  by_cases q:x.1≤t
  ·rw [if_pos q,if_pos (this.1 q)]
  ·rw [if_neg q,if_neg (fun k=>q (this.2 k))]
theorem upF_dep {l:List Ev} {t u:Int} (h:∀ x∈l,x.1≤t ↔ x.1≤u):upF l t=upF l u:=by unfold upF;rw [upN_dep h]
theorem any_congr {α:Type} {l:List α} {a b:α→Bool} (h:∀ x∈l,a x=b x):l.any a=l.any b:=by
 induction l with
 | nil=>rfl
 | cons x l ih=>rw [List.any_cons,List.any_cons,h x (by simp),ih fun y hy=>h y (by simp [hy])]
theorem upN_before {l:List Ev} {t:Int} (h:∀ x∈l,t<x.1):upN l t=0:=by
 cases l with
 | nil=>rfl
 | cons x l =>
  have:=h x (by simp)
  rw [upN_cons,if_neg (by omega)]
noncomputable def canB (S:Sp) (p:Pp):Bool:=@decide (∃ f,Snd S f p) (Classical.propDecidable _)
theorem canB_snd {S:Sp} {B:(Th→Int)→Pp→Bool} (hB:SndIs S B) {p:Pp} (h:canB S p=false) (f:Th→Int):B f p=false:=by
 cases e:B f p with
 | false=>rfl
 | true=>exact absurd ⟨f,(hB f p).1 e⟩ (@of_decide_eq_false _ (Classical.propDecidable _) h)
theorem canB_is {S:Sp} {p:Pp} (h:canB S p=true):∃ f,Snd S f p:=@of_decide_eq_true _ (Classical.propDecidable _) h
def intsFrom (lo:Int) (n:Nat):List Int:=(List.range n).map fun (k:Nat)=>lo+(k:Int)
theorem mem_intsFrom {lo:Int} {n:Nat} {k:Int}:k∈intsFrom lo n ↔ lo≤k∧k<lo+n:=by
 unfold intsFrom
 rw [List.mem_map]
 constructor
 ·rintro ⟨a,ha,rfl⟩
  have:=List.mem_range.1 ha
  omega
 ·rintro ⟨h1,h2⟩
  exact ⟨(k-lo).toNat,List.mem_range.2 (by omega),by omega⟩
def playAll (S:Sp):List Pp:=S.ss.flatMap fun x=>match S.ds[x.div.toNat]? with
 | none=>[]
 | some d=>(intsFrom d.lo (d.hi-d.lo+1).toNat).flatMap (playsL x)
theorem len_flat {α β:Type} {g:α→List β} {a:Nat}:∀ {l:List α},(∀ x∈l,(g x).length≤a)→(l.flatMap g).length≤l.length * a
 | [],_=>by simp
 | x :: l,h=>by
  have ih:=len_flat (l:=l) fun y hy=>h y (by simp [hy])
  have h1:=h x (by simp)
  rw [List.flatMap_cons,List.length_append,List.length_cons,Nat.add_mul]
  omega
theorem keysP_ge {ds:List Dv} {a:Int}:a≤ds.foldl (fun a d=>max a (d.hi-d.lo+1)) a∧∀ d∈ds,d.hi-d.lo+1≤ds.foldl (fun a d=>max a (d.hi-d.lo+1)) a:=by
 induction ds generalizing a with
 | nil=>exact ⟨Int.le_refl _,fun d h=>by cases h⟩
 | cons x ds ih =>
  rw [List.foldl_cons]
  obtain ⟨h1,h2⟩:=ih (a:=max a (x.hi-x.lo+1))
  refine ⟨by omega,fun d hd=>?_⟩
  rcases List.mem_cons.1 hd with rfl | hd
  ·omega
  ·exact h2 d hd
theorem playAll_len {S:Sp} (g:SpGood S):(playAll S).length≤S.ss.length * ((keysP S.ds).toNat * 12):=by
 unfold playAll
 refine len_flat fun x hx=>?_
 cases hd:S.ds[x.div.toNat]? with
 | none=>simp
 | some d =>
  simp only
  obtain ⟨hi,rfl⟩:=List.getElem?_eq_some_iff.1 hd
  have h1:=(keysP_ge (ds:=S.ds) (a:=0)).2 _ (List.getElem_mem hi)
  have h2:=len_flat (g:=playsL x) (a:=12) (l:=intsFrom S.ds[x.div.toNat].lo (S.ds[x.div.toNat].hi-S.ds[x.div.toNat].lo+1).toNat) fun k _=>by
   unfold playsL
   rw [List.length_map]
   have:=List.length_filter_le (fun y:Pt=>decide (y.lo≤k∧k≤y.hi)) x.parts
   have:=(g.s x hx).2.2.2
   omega
  refine Nat.le_trans h2 (Nat.mul_le_mul_right _ ?_)
  unfold intsFrom
  rw [List.length_map,List.length_range]
  unfold keysP
  omega
theorem can_plays {S:Sp} {p:Pp} (h:canB S p=true):p∈playAll S:=by
 obtain ⟨f,i,hi,_,key,_,hk,hp⟩:=canB_is h
 unfold keyOk keyIn at hk
 unfold playAll
 refine List.mem_flatMap.2 ⟨_,List.getElem_mem hi,?_⟩
 cases hd:S.ds[S.ss[i].div.toNat]? with
 | none =>
  have h1:=List.getElem?_eq_none_iff.1 hd
  simp only [Bool.and_eq_true,decide_eq_true_eq] at hk
  omega
 | some d =>
  rw [hd] at hk
  simp only [Bool.and_eq_true,decide_eq_true_eq] at hk
  exact List.mem_flatMap.2 ⟨key,mem_intsFrom.2 (by omega),mem_playsL.2 hp⟩
theorem allFrom_cnt {l:List Rk} (h:∀ r∈l,rkE r=0):∀ (n:Int),((allFrom n l).length:Int)=cntP l:=by
 induction l with
 | nil=>intro n;rfl
 | cons r l ih =>
  intro n
  have hr:=rk_ok (h r (by simp))
  rw [allFrom,List.length_append,ofRank_len,cntP,← ih (fun x hx=>h x (by simp [hx])) (n+1)]
  push_cast
  omega
theorem can_few {S:Sp} {l:List Ev} (hs:Small S l) (hc:(checkP S).2=0):((allFrom 0 S.rs).filter (canB S)).length≤244:=by
 have g:=spGood hc
 have hf:=hs.few hc
 unfold pipesP at hf
 rw [if_pos hc,← allFrom_cnt g.r 0] at hf
 simp only at hf
 have h1:=List.length_filter_le (canB S) (allFrom 0 S.rs)
 have h2:((allFrom 0 S.rs).filter (canB S)).length≤(playAll S).length:=len_sub (nodup_pp ((asc_allFrom _ _).sublist List.filter_sublist)) fun x hx=>can_plays (List.mem_filter.1 hx).2
 have h3:=playAll_len g
 have hk:0≤keysP S.ds:=(keysP_ge (ds:=S.ds) (a:=0)).1
 obtain ⟨k,hk2⟩:∃ k:Nat,keysP S.ds=(k:Int):=⟨(keysP S.ds).toNat,by omega⟩
 rw [hk2] at hf h3
 generalize ((allFrom 0 S.rs).filter (canB S)).length=x at *
 generalize (allFrom 0 S.rs).length=n at *
 generalize S.ss.length=s at *
 have hf2:n * k * (s+1)≤5000:=Int.ofNat_le.1 (by rw [Int.natCast_mul,Int.natCast_mul,Int.natCast_add];exact hf)
 rw [Int.toNat_natCast] at h3
 have h4:x≤s * (k * 12):=Nat.le_trans h2 h3
 have h5:x * x≤n * (s * (k * 12)):=Nat.mul_le_mul h1 h4
 have h6:n * (s * (k * 12))=12 * (n * k * s):=by rw [← Nat.mul_assoc s k 12,← Nat.mul_assoc n (s * k) 12,Nat.mul_comm (n * (s * k)) 12,Nat.mul_comm s k,← Nat.mul_assoc n k s]
 have h7:n * k * s≤n * k * (s+1):=Nat.mul_le_mul_left _ (by omega)
 rcases Nat.lt_or_ge 244 x with q | q
 ·have:245 * 245≤x * x:=Nat.mul_le_mul q q
  omega
 ·exact q
end Go.Proofs.YthhfmppealmblaaGreatDoor
namespace Go.Proofs.YthhfmppealmblaaGreatDoor
def endS (N:Pp→Bool) (t:Int) (c:Cl):Cl:=if c.2.2<0∧N c.1=false then (c.1,c.2.1,t) else c
def newS (all:List Pp) (was N:Pp→Bool) (t:Int):List Cl:=(all.filter fun p=>N p && !was p).map fun p=>(p,t,-1)
def stepS (all:List Pp) (was N:Pp→Bool) (t:Int) (out:List Cl):List Cl:=out.map (endS N t)++newS all was N t
def sdS (all:List Pp) (N:Int→Pp→Bool):(Pp→Bool)→List Cl→List Int→List Cl
 | _,out,[]=>out
 | was,out,t :: ts=>sdS all N (N t) (stepS all was (N t) t out) ts
theorem endS_fst (N:Pp→Bool) (t:Int) (c:Cl):(endS N t c).1=c.1:=by unfold endS;split <;> rfl
theorem endS_from (N:Pp→Bool) (t:Int) (c:Cl):(endS N t c).2.1=c.2.1:=by unfold endS;split <;> rfl
theorem mem_newS {all:List Pp} {was N:Pp→Bool} {t:Int} {c:Cl}:c∈newS all was N t ↔ c.1∈all∧N c.1=true∧was c.1=false∧c.2.1=t∧c.2.2 = -1:=by
 unfold newS
 rw [List.mem_map]
 constructor
 ·rintro ⟨p,hp,rfl⟩
  have h:=List.mem_filter.1 hp
  have h2:=h.2
  simp only [Bool.and_eq_true,Bool.not_eq_true'] at h2
  exact ⟨h.1,h2.1,h2.2,rfl,rfl⟩
 ·rintro ⟨h1,h2,h3,h4,h5⟩
  obtain ⟨p,a,b⟩:=c
  simp only at h1 h2 h3 h4 h5
  subst h4 h5
  exact ⟨p,List.mem_filter.2 ⟨h1,by simp [h2,h3]⟩,rfl⟩
structure SdOk (all:List Pp) (T:List Int) (lo:Int) (was:Pp→Bool) (out:List Cl):Prop where
 mem:∀ c∈out,c.1∈all∧c.2.1∈T∧0≤c.2.1∧c.2.1≤lo∧(c.2.2 = -1∨c.2.2∈T∧c.2.1<c.2.2∧c.2.2≤lo)
 opn:∀ p,was p=true ↔ ∃ c∈out,c.1=p∧c.2.2 = -1
 apart:out.Pairwise fun c d=>c.1=d.1→0≤c.2.2∧c.2.2<d.2.1
theorem sdOk_start (all:List Pp) (T:List Int) (lo:Int):SdOk all T lo (fun _=>false) []:=⟨(fun c h=>by cases h),(fun p=>by simp),List.Pairwise.nil⟩
theorem SdOk.step {all:List Pp} {T:List Int} {lo t:Int} {was N:Pp→Bool} {out:List Cl} (h:SdOk all T lo was out) (ha:all.Pairwise ppLt) (hlt:lo<t) (h0:0≤t) (ht:t∈T) (hN:∀ p,N p=true→p∈all):SdOk all T t N (stepS all was N t out) where
 mem c hc:=by
  rcases List.mem_append.1 hc with hc | hc
  ·obtain ⟨d,hd,rfl⟩:=List.mem_map.1 hc
   obtain ⟨m1,m2,m3,m4,m5⟩:=h.mem d hd
   unfold endS
   split
   ·exact ⟨m1,m2,m3,by simp only;omega,.inr ⟨ht,by simp only;omega,Int.le_refl _⟩⟩
   ·exact ⟨m1,m2,m3,by omega,m5.imp id fun q=>⟨q.1,q.2.1,by omega⟩⟩
  ·obtain ⟨n1,_,_,n4,n5⟩:=mem_newS.1 hc
   exact ⟨n1,by rw [n4];exact ht,by omega,by omega,.inl n5⟩
 opn p:=by
  constructor
  ·intro hp
   cases hw:was p with
   | true =>
    obtain ⟨c,hc,e1,e2⟩:=(h.opn p).1 hw
    refine ⟨c,List.mem_append.2 (.inl (List.mem_map.2 ⟨c,hc,?_⟩)),e1,e2⟩
    unfold endS
    rw [if_neg]
    rintro ⟨_,q⟩
    rw [e1,hp] at q
    cases q
   | false=>exact ⟨(p,t,-1),List.mem_append.2 (.inr (mem_newS.2 ⟨hN p hp,hp,hw,rfl,rfl⟩)),rfl,rfl⟩
  ·rintro ⟨c,hc,rfl,e2⟩
   rcases List.mem_append.1 hc with hc | hc
   ·obtain ⟨d,hd,rfl⟩:=List.mem_map.1 hc
    rw [endS_fst]
    unfold endS at e2
    split at e2
    ·simp only at e2
     omega
    ·next q =>
     cases e:N d.1 with
     | true=>rfl
     | false=>exact absurd ⟨by omega,e⟩ q
   ·exact (mem_newS.1 hc).2.1
 apart:=by
  unfold stepS
  rw [List.pairwise_append]
  refine ⟨?_,?_,?_⟩
  ·rw [List.pairwise_map]
   refine h.apart.imp fun {c d} q=>?_
   rw [endS_fst,endS_fst,endS_from]
   intro e
   obtain ⟨q1,q2⟩:=q e
   unfold endS
   rw [if_neg (by omega)]
   exact ⟨q1,q2⟩
  ·unfold newS
   rw [List.pairwise_map]
   refine (ha.sublist List.filter_sublist).imp fun {a b} q e=>?_
   simp only at e
   subst e
   exact absurd q (ppLt_irrefl _)
  ·intro c hc d hd e
   obtain ⟨c',hc',rfl⟩:=List.mem_map.1 hc
   obtain ⟨_,n2,n3,n4,_⟩:=mem_newS.1 hd
   obtain ⟨m1,m2,m3,m4,m5⟩:=h.mem c' hc'
   rw [endS_fst] at e
   unfold endS
   split
   ·next q =>
    rw [e,n2] at q
    exact absurd q.2 (by decide)
   ·rw [n4]
    rcases m5 with m5 | m5
    ·have:=(h.opn c'.1).2 ⟨c',hc',rfl,m5⟩
     rw [e,n3] at this
     cases this
    ·omega
theorem sdS_ok {all:List Pp} {T:List Int} {N:Int→Pp→Bool} (ha:all.Pairwise ppLt) (hN:∀ t p,N t p=true→p∈all):∀ {ts:List Int} {lo:Int} {was:Pp→Bool} {out:List Cl},SdOk all T lo was out→ts.Pairwise (· < ·)→(∀ t∈ts,lo<t∧0≤t∧t∈T)→∃ lo' was',SdOk all T lo' was' (sdS all N was out ts)
 | [],lo,was,out,h,_,_=>⟨lo,was,h⟩
 | t :: ts,lo,was,out,h,hasc,h1=>by
  have ha1:=List.pairwise_cons.1 hasc
  obtain ⟨q1,q2,q3⟩:=h1 t (by simp)
  rw [sdS]
  exact sdS_ok ha hN (h.step ha q1 q2 q3 (hN t)) ha1.2 fun u hu=>⟨ha1.1 u hu,(h1 u (by simp [hu])).2⟩
def atB (N:Int→Pp→Bool) (p:Pp) (t:Int):Bool→List Int→Bool
 | b,[]=>b
 | b,u :: ts=>if u≤t then atB N p t (N u p) ts else b
theorem any_step {all:List Pp} {T:List Int} {lo t u:Int} {was N:Pp→Bool} {out:List Cl} (h:SdOk all T lo was out) (hlt:lo<t) (hN:∀ p,N p=true→p∈all) (p:Pp):(stepS all was N t out).any (fun c=>clB c p u)=if t≤u then N p else out.any fun c=>clB c p u:=by
 unfold stepS
 rw [List.any_append,List.any_map]
 by_cases q:t≤u
 ·rw [if_pos q,Bool.eq_iff_iff,Bool.or_eq_true,List.any_eq_true,List.any_eq_true]
  unfold clB
  simp only [Function.comp,Bool.and_eq_true,Bool.or_eq_true,decide_eq_true_iff]
  constructor
  ·rintro (⟨c,hc,⟨h1,h2⟩,h3⟩ | ⟨c,hc,⟨h1,h2⟩,h3⟩)
   ·obtain ⟨_,_,_,m4,m5⟩:=h.mem c hc
    rw [endS_fst] at h1
    unfold endS at h3
    split at h3
    ·simp only at h3
     omega
    ·next k =>
     cases e:N p with
     | true=>rfl
     | false=>exact absurd ⟨by omega,by rw [h1];exact e⟩ k
   ·have:=(mem_newS.1 hc).2.1
    rw [h1] at this
    exact this
  ·intro hp
   cases hw:was p with
   | true =>
    obtain ⟨c,hc,e1,e2⟩:=(h.opn p).1 hw
    refine .inl ⟨c,hc,?_⟩
    have:endS N t c=c:=by
     unfold endS
     rw [if_neg]
     rintro ⟨_,k⟩
     rw [e1,hp] at k
     cases k
    rw [this]
    have:=(h.mem c hc).2.2.2.1
    exact ⟨⟨e1,by omega⟩,.inl (by omega)⟩
   | false =>
    refine .inr ⟨(p,t,-1),mem_newS.2 ⟨hN p hp,hp,hw,rfl,rfl⟩,⟨rfl,q⟩,.inl (by show (-1:Int)<0;omega)⟩
 ·rw [if_neg q,any_congr (b:=fun c=>clB c p u) fun c hc=>?_]
  ·have:(newS all was N t).any (fun c=>clB c p u)=false:=by
    rw [List.any_eq_false]
    intro c hc
    have:=(mem_newS.1 hc).2.2.2.1
    unfold clB
    rw [decide_eq_false (show ¬ c.2.1≤u by omega),Bool.and_false,Bool.false_and]
    exact Bool.false_ne_true
   rw [this,Bool.or_false]
  ·simp only [Function.comp]
   unfold clB
   rw [endS_fst,endS_from]
   congr 1
   unfold endS
   split
   ·next k =>
    rw [decide_eq_true k.1,Bool.true_or,decide_eq_true (show u<t by omega),Bool.or_true]
   ·rfl
theorem sdS_any {all:List Pp} {T:List Int} {N:Int→Pp→Bool} (ha:all.Pairwise ppLt) (hN:∀ t p,N t p=true→p∈all) (p:Pp) (u:Int):∀ {ts:List Int} {lo:Int} {was:Pp→Bool} {out:List Cl},SdOk all T lo was out→ts.Pairwise (· < ·)→(∀ t∈ts,lo<t∧0≤t∧t∈T)→(sdS all N was out ts).any (fun c=>clB c p u)=atB N p u (out.any fun c=>clB c p u) ts
 | [],lo,was,out,_,_,_=>rfl
 | t :: ts,lo,was,out,h,hasc,h1=>by
  have ha1:=List.pairwise_cons.1 hasc
  obtain ⟨q1,q2,q3⟩:=h1 t (by simp)
  have ih:=sdS_any (N:=N) ha hN p u (h.step ha q1 q2 q3 (hN t)) ha1.2 fun v hv=>⟨ha1.1 v hv,(h1 v (by simp [hv])).2⟩
  rw [sdS,ih,any_step h q1 (hN t),atB]
  by_cases q:t≤u
  ·rw [if_pos q,if_pos q]
  ·rw [if_neg q,if_neg q]
   cases ts with
   | nil=>rfl
   | cons v ts =>
    have:=ha1.1 v (by simp)
    rw [atB,if_neg (by omega)]
theorem atB_is {N:Int→Pp→Bool} {T:List Int} (D:∀ t u,(∀ x∈T,x≤t ↔ x≤u)→N t=N u) {p:Pp} {t:Int}:∀ {ts:List Int} {lo:Int},ts.Pairwise (· < ·)→(∀ u∈ts,lo<u)→(∀ x∈T,x≤lo∨x∈ts)→lo≤t→atB N p t (N lo p) ts=N t p
 | [],lo,_,_,h,hl=>by
  rw [atB,D lo t fun x hx=>?_]
  rcases h x hx with h | h
  ·omega
  ·cases h
 | u :: ts,lo,ha,h1,h,hl=>by
  have ha1:=List.pairwise_cons.1 ha
  rw [atB]
  by_cases q:u≤t
  ·rw [if_pos q]
   refine atB_is D ha1.2 ha1.1 (fun x hx=>?_) q
   rcases h x hx with k | k
   ·have:=h1 u (by simp)
    exact .inl (by omega)
   ·rcases List.mem_cons.1 k with rfl | k
    ·exact .inl (Int.le_refl _)
    ·exact .inr k
  ·rw [if_neg q,D lo t fun x hx=>?_]
   rcases h x hx with k | k
   ·omega
   ·have h2:=h1 x k
    rcases List.mem_cons.1 k with rfl | k
    ·omega
    ·have:=ha1.1 x k
     omega
def sndN (B:(Th→Int)→Pp→Bool) (l:List Ev) (t:Int):Pp→Bool:=B (upF l t)
def sndsL (S:Sp) (B:(Th→Int)→Pp→Bool) (l:List Ev):List Cl:=sdS (allFrom 0 S.rs) (sndN B l) (fun _=>false) [] (ticksL [] l)
theorem sndN_all {S:Sp} {B:(Th→Int)→Pp→Bool} (hB:SndIs S B) (hc:(checkP S).2=0) (l:List Ev):∀ t p,sndN B l t p=true→p∈allFrom 0 S.rs:=fun _ _ h=>snd_all (fun _ hx _=>(spGood hc).plays hx) ((hB _ _).1 h)
theorem ticks_in {S:Sp} {l:List Ev} (hR:RecOk S l):∀ t∈ticksL [] l,(-1:Int)<t∧0≤t∧t∈l.map (·.1):=fun t ht=>by
 rcases mem_ticksL.1 ht with h | ⟨x,hx,rfl⟩
 ·cases h
 ·have:=(hR.nonneg hx).1
  exact ⟨by omega,this,List.mem_map.2 ⟨x,hx,rfl⟩⟩
theorem snds_ok {S:Sp} {B:(Th→Int)→Pp→Bool} (hB:SndIs S B) {l:List Ev} (hR:RecOk S l):∃ lo was,SdOk (allFrom 0 S.rs) (l.map (·.1)) lo was (sndsL S B l) :=
 sdS_ok (asc_allFrom _ _) (sndN_all hB hR.sp l) (sdOk_start _ _ (-1)) (asc_ticksL List.Pairwise.nil) (ticks_in hR)
theorem sndN_before {S:Sp} {B:(Th→Int)→Pp→Bool} (hB:SndIs S B) {l:List Ev} {t:Int} (h:∀ x∈l,t<x.1) (p:Pp):sndN B l t p=false:=by
 unfold sndN upF
 rw [upN_before h,show onV (l.take 0)=(fun _=>0) from rfl,snd_zero hB]
theorem snds_any {S:Sp} {B:(Th→Int)→Pp→Bool} (hB:SndIs S B) {l:List Ev} (hR:RecOk S l) (p:Pp) (t:Int):(sndsL S B l).any (fun c=>clB c p t)=B (upF l t) p:=by
 have hasc:(ticksL [] l).Pairwise (· < ·):=asc_ticksL List.Pairwise.nil
 have h1:=sdS_any (N:=sndN B l) (asc_allFrom 0 S.rs) (sndN_all hB hR.sp l) p t (sdOk_start _ (l.map (·.1)) (-1)) hasc (ticks_in hR)
 have hlo:∀ u∈ticksL [] l,min (-1) t<u:=fun u hu=>by have:=(ticks_in hR u hu).2.1;omega
 have h2:=atB_is (N:=sndN B l) (T:=l.map (·.1)) (fun t u h=>by unfold sndN;rw [upF_dep fun x hx=>h _ (List.mem_map.2 ⟨x,hx,rfl⟩)]) (p:=p) (t:=t) (lo:=min (-1) t) hasc hlo (fun x hx=>by
  obtain ⟨y,hy,rfl⟩:=List.mem_map.1 hx
  exact .inr (mem_ticksL.2 (.inr ⟨y,hy,rfl⟩))) (by omega)
 rw [sndN_before hB fun x hx=>hlo _ (mem_ticksL.2 (.inr ⟨x,hx,rfl⟩))] at h2
 unfold sndsL
 rw [h1]
 exact h2
end Go.Proofs.YthhfmppealmblaaGreatDoor
namespace Go.Proofs.YthhfmppealmblaaGreatDoor
theorem stepS_same {all:List Pp} {T:List Int} {lo t:Int} {was:Pp→Bool} {out:List Cl} (h:SdOk all T lo was out):stepS all was was t out=out:=by
 unfold stepS
 have h1:newS all was was t=[]:=by
  rcases List.eq_nil_or_concat (newS all was was t) with e | ⟨r,c,e⟩
  ·exact e
  ·have:=mem_newS.1 (show c∈newS all was was t by rw [e];simp)
   rw [this.2.1] at this
   exact absurd this.2.2.1 (by decide)
 rw [h1,List.append_nil]
 refine (List.map_congr_left (g:=id) fun c hc=>?_).trans (List.map_id out)
 unfold endS
 rw [if_neg]
 ·rfl
 ·rintro ⟨q1,q2⟩
  have:=(h.opn c.1).2 ⟨c,hc,rfl,by have:=(h.mem c hc).2.2;omega⟩
  rw [this] at q2
  cases q2
def CalmN (N:Int→Pp→Bool) (q:Int→Bool):(Pp→Bool)→List Int→Prop
 | _,[]=>True
 | was,t :: ts=>(q t=false→N t=was)∧CalmN N q (N t) ts
theorem sdS_thin {all:List Pp} {T:List Int} {N:Int→Pp→Bool} {q:Int→Bool} (ha:all.Pairwise ppLt) (hN:∀ t p,N t p=true→p∈all):∀ {ts:List Int} {lo:Int} {was:Pp→Bool} {out:List Cl},SdOk all T lo was out→ts.Pairwise (· < ·)→(∀ t∈ts,lo<t∧0≤t∧t∈T)→CalmN N q was ts→sdS all N was out ts=sdS all N was out (ts.filter q)
 | [],_,_,_,_,_,_,_=>rfl
 | t :: ts,lo,was,out,h,hasc,h1,hc=>by
  have ha1:=List.pairwise_cons.1 hasc
  obtain ⟨q1,q2,q3⟩:=h1 t (by simp)
  have h2:∀ u∈ts,t<u∧0≤u∧u∈T:=fun u hu=>⟨ha1.1 u hu,(h1 u (by simp [hu])).2⟩
  cases hq:q t with
  | true =>
   rw [List.filter_cons_of_pos hq,sdS,sdS]
   exact sdS_thin ha hN (h.step ha q1 q2 q3 (hN t)) ha1.2 h2 hc.2
  | false =>
   rw [List.filter_cons_of_neg (by simp [hq]),sdS]
   have e:=hc.1 hq
   have h3:=hc.2
   rw [e] at h3 ⊢
   rw [stepS_same h]
   exact sdS_thin ha hN h ha1.2 (fun u hu=>h1 u (by simp [hu])) h3
theorem calmN_is {N:Int→Pp→Bool} {T:List Int} (D:∀ t u,(∀ x∈T,x≤t ↔ x≤u)→N t=N u):∀ {ts:List Int} {lo:Int},ts.Pairwise (· < ·)→(∀ u∈ts,lo<u)→(∀ x∈T,x≤lo∨x∈ts)→CalmN N (fun t=>decide (t∈T)) (N lo) ts
 | [],_,_,_,_=>trivial
 | u :: ts,lo,ha,h1,h=>by
  have ha1:=List.pairwise_cons.1 ha
  have h1u:=h1 u (by simp)
  refine ⟨fun hq=>?_,?_⟩
  ·have hq2:u ∉ T:=of_decide_eq_false hq
   refine (D lo u fun x hx=>?_).symm
   rcases h x hx with k | k
   ·omega
   ·have h2:=h1 x k
    rcases List.mem_cons.1 k with rfl | k
    ·exact absurd hx hq2
    ·have:=ha1.1 x k
     omega
  ·refine calmN_is D ha1.2 ha1.1 fun x hx=>?_
   rcases h x hx with k | k
   ·exact .inl (by omega)
   ·rcases List.mem_cons.1 k with rfl | k
    ·exact .inl (Int.le_refl _)
    ·exact .inr k
theorem tks_same {l m:List Int} (hl:l.Pairwise (· < ·)) (hm:m.Pairwise (· < ·)) (h:∀ x,x∈l ↔ x∈m):l=m:=lt_same (lt:=fun a b=>a<b) (fun a h=>by omega) (fun a b h=>by omega) hl hm h
theorem sndsL_more {S:Sp} {B:(Th→Int)→Pp→Bool} (hB:SndIs S B) {l:List Ev} (hc:(checkP S).2=0) {U:List Int} (hU:U.Pairwise (· < ·)) (h0:∀ t∈U,0≤t) (hin:∀ x∈l,x.1∈U):sdS (allFrom 0 S.rs) (sndN B l) (fun _=>false) [] U=sndsL S B l:=by
 have hlo:∀ t∈U,(-1:Int)<t:=fun t ht=>by have:=h0 t ht;omega
 have hcalm:=calmN_is (N:=sndN B l) (T:=l.map (·.1)) (fun t u h=>by unfold sndN;rw [upF_dep fun x hx=>h _ (List.mem_map.2 ⟨x,hx,rfl⟩)]) (lo:=-1) hU hlo (fun x hx=>by
  obtain ⟨y,hy,rfl⟩:=List.mem_map.1 hx
  exact .inr (hin y hy))
 rw [show sndN B l (-1)=fun _=>false from funext fun p=>sndN_before hB (fun x hx=>hlo _ (hin x hx)) p] at hcalm
 rw [sdS_thin (T:=U) (asc_allFrom _ _) (sndN_all hB hc l) (sdOk_start _ U (-1)) hU (fun t ht=>⟨hlo t ht,h0 t ht,ht⟩) hcalm]
 unfold sndsL
 congr 1
 refine tks_same (hU.sublist List.filter_sublist) (asc_ticksL List.Pairwise.nil) fun t=>?_
 rw [List.mem_filter,decide_eq_true_iff,mem_ticksL,List.mem_map]
 constructor
 ·rintro ⟨_,x,hx,rfl⟩
  exact .inr ⟨x,hx,rfl⟩
 ·rintro (h | ⟨x,hx,rfl⟩)
  ·cases h
  ·exact ⟨hin x hx,x,hx,rfl⟩
theorem sndsL_same {S:Sp} {B:(Th→Int)→Pp→Bool} (hB:SndIs S B) {a b:List Ev} (hA:RecOk S a) (hb:RecOk S b) (h:∀ t p,B (upF a t) p=B (upF b t) p):sndsL S B a=sndsL S B b:=by
 have hU:(ticksL (ticksL [] a) b).Pairwise (· < ·):=asc_ticksL (asc_ticksL List.Pairwise.nil)
 have h0:∀ t∈ticksL (ticksL [] a) b,0≤t:=fun t ht=>by
  rcases mem_ticksL.1 ht with h | ⟨x,hx,rfl⟩
  ·rcases mem_ticksL.1 h with h | ⟨x,hx,rfl⟩
   ·cases h
   ·exact (hA.nonneg hx).1
  ·exact (hb.nonneg hx).1
 rw [← sndsL_more hB hA.sp hU h0 fun x hx=>mem_ticksL.2 (.inl (mem_ticksL.2 (.inr ⟨x,hx,rfl⟩))),← sndsL_more hB hb.sp hU h0 fun x hx=>mem_ticksL.2 (.inr ⟨x,hx,rfl⟩)]
 rw [show sndN B a=sndN B b from funext fun t=>funext fun p=>h t p]
theorem snds_few {S:Sp} {B:(Th→Int)→Pp→Bool} (hB:SndIs S B) {l:List Ev} (hR:RecOk S l) (hcan:((allFrom 0 S.rs).filter (canB S)).length≤244) (hl:l.length≤40):(sndsL S B l).length≤20000:=by
 obtain ⟨lo,was,h⟩:=snds_ok hB hR
 have hany:=snds_any hB hR
 generalize sndsL S B l=R at *
 have hn:(R.map fun c=>(c.1,c.2.1)).Nodup:=by
  rw [List.Nodup,List.pairwise_map]
  refine (List.pairwise_iff_getElem.2 fun i j hi hj hij=>?_)
  intro e
  have e1:=congrArg Prod.fst e
  have e2:=congrArg Prod.snd e
  simp only at e1 e2
  have h1:=(List.pairwise_iff_getElem.1 h.apart) i j hi hj hij e1
  have h2:=(h.mem _ (List.getElem_mem hi)).2.2.2.2
  omega
 have hs:=len_sub (m:=((allFrom 0 S.rs).filter (canB S)).flatMap fun p=>(l.map (·.1)).map fun t=>(p,t)) hn fun x hx=>by
  obtain ⟨c,hc,rfl⟩:=List.mem_map.1 hx
  obtain ⟨m1,m2,m3,m4,m5⟩:=h.mem c hc
  refine List.mem_flatMap.2 ⟨c.1,List.mem_filter.2 ⟨m1,?_⟩,List.mem_map.2 ⟨_,m2,rfl⟩⟩
  cases e:canB S c.1 with
  | true=>rfl
  | false =>
   have h1:=hany c.1 c.2.1
   rw [canB_snd hB e,List.any_eq_false] at h1
   refine absurd ?_ (h1 c hc)
   unfold clB
   rw [decide_eq_true rfl,decide_eq_true (Int.le_refl _),Bool.true_and,Bool.true_and,Bool.or_eq_true,decide_eq_true_iff,decide_eq_true_iff]
   omega
 rw [List.length_map] at hs
 have h2:=len_flat (g:=fun p:Pp=>(l.map (·.1)).map fun t=>(p,t)) (a:=40) (l:=(allFrom 0 S.rs).filter (canB S)) fun p _=>by simpa using hl
 omega
end Go.Proofs.YthhfmppealmblaaGreatDoor
namespace Go.Proofs.YthhfmppealmblaaGreatDoor
def offF (k:Int) (i:Nat) (f:Th→Int):Th→Int:=fun t=>if t=(k,0,(i:Int)) then 0 else f t
def keepB (k:Int) (i:Nat) (x:Ev):Bool:=!(decide (x.2.1=k) && decide (x.2.2.2.1=(i:Int)))
def restL (k:Int) (i:Nat) (l:List Ev):List Ev:=l.filter (keepB k i)
theorem keep_yes {k:Int} {i:Nat} {x:Ev} (h:keepB k i x=true):thing x≠(k,0,(i:Int)):=by
 intro e
 unfold thing at e
 simp only [Prod.mk.injEq] at e
 unfold keepB at h
 rw [decide_eq_true e.1,decide_eq_true e.2.2] at h
 cases h
theorem keep_no {k:Int} {i:Nat} {x:Ev} {S:Sp} (h:keepB k i x=false) (hk:k≠1) (he:evE S x=0):thing x=(k,0,(i:Int)):=by
 unfold keepB at h
 rw [Bool.not_eq_false',Bool.and_eq_true,decide_eq_true_iff,decide_eq_true_iff] at h
 unfold evE at he
 by_cases q:x.2.1<1∨5<x.2.1∨(x.2.1≠1∧x.2.2.1≠0)∨(x.2.1=5∧x.2.2.2.2≠0)
 ·rw [if_pos q] at he;cases he
 ·have h0:x.2.2.1=0:=by
   by_cases z:x.2.2.1=0
   ·exact z
   ·exact absurd (.inr (.inr (.inl ⟨by omega,z⟩))) q
  unfold thing
  rw [h.1,h0,h.2]
theorem off_keep {k:Int} {i:Nat} {x:Ev} (f:Th→Int) (h:keepB k i x=true):onS (offF k i f) x=offF k i (onS f x):=by
 funext t
 have hx:=keep_yes h
 unfold onS offF
 by_cases e:t=(k,0,(i:Int))
 ·rw [if_pos e,if_neg (fun q=>hx (q.2.trans e)),if_pos e]
 ·rw [if_neg e,if_neg e]
theorem off_drop {k:Int} {i:Nat} {x:Ev} {S:Sp} (f:Th→Int) (h:keepB k i x=false) (hk:k≠1) (he:evE S x=0):offF k i (onS f x)=offF k i f:=by
 funext t
 have hx:=keep_no h hk he
 unfold onS offF
 by_cases e:t=(k,0,(i:Int))
 ·rw [if_pos e,if_pos e]
 ·rw [if_neg e,if_neg e]
  exact if_neg (fun q=>e (q.2.symm.trans hx))
theorem onV_rest {k:Int} {i:Nat} {S:Sp} (hk:k≠1):∀ {n:Nat} {l:List Ev},l.length=n→(∀ x∈l,evE S x=0)→onV (restL k i l)=offF k i (onV l)
 | 0,l,hn,_=>by
  have:l=[]:=List.length_eq_zero_iff.1 hn
  subst this
  funext t
  unfold offF
  show (0:Int)=_
  split <;> rfl
 | n+1,l,hn,h=>by
  rcases List.eq_nil_or_concat l with rfl | ⟨m,x,rfl⟩
  ·cases hn
  ·rw [List.concat_eq_append] at hn h ⊢
   have hm:m.length=n:=by simpa using hn
   have ih:=onV_rest (k:=k) (i:=i) (S:=S) hk hm fun y hy=>h y (by simp [hy])
   have hx:=h x (by simp)
   unfold restL at ih ⊢
   rw [List.filter_append,onV_snoc]
   cases e:keepB k i x with
   | true=>rw [List.filter_cons_of_pos e,List.filter_nil,onV_snoc,ih,off_keep _ e]
   | false=>rw [List.filter_cons_of_neg (by simp [e]),List.filter_nil,List.append_nil,ih,off_drop _ e hk hx]
theorem take_up {l:List Ev} (h:l.Pairwise fun a b=>a.1≤b.1) (t:Int):l.take (upN l t)=l.filter fun x=>decide (x.1≤t):=by
 induction l with
 | nil=>rfl
 | cons x l ih =>
  have h1:=List.pairwise_cons.1 h
  rw [upN_cons]
  by_cases q:x.1≤t
  ·rw [if_pos q,List.take_succ_cons,List.filter_cons_of_pos (by simpa using q),ih h1.2]
  ·rw [if_neg q,List.take_zero,List.filter_cons_of_neg (by simpa using q)]
   refine (List.filter_eq_nil_iff.2 fun y hy=>?_).symm
   have:=h1.1 y hy
   simp only [decide_eq_true_eq]
   omega
theorem upF_rest {k:Int} {i:Nat} {S:Sp} (hk:k≠1) {l:List Ev} (hR:RecOk S l) (t:Int):upF (restL k i l) t=offF k i (upF l t):=by
 have hp:=hR.asc.pair
 unfold upF
 rw [take_up hp t,take_up (l:=restL k i l) (hp.sublist List.filter_sublist) t]
 have:(restL k i l).filter (fun x=>decide (x.1≤t))=restL k i (l.filter fun x=>decide (x.1≤t)):=by
  unfold restL
  rw [List.filter_filter,List.filter_filter]
  exact List.filter_congr fun x _=>Bool.and_comm _ _
 rw [this,onV_rest (S:=S) hk rfl fun x hx=>?_]
 obtain ⟨j,hj,rfl⟩:=List.getElem_of_mem (List.mem_filter.1 hx).1
 exact (hR.at' j hj).2
theorem recF_app {S:Sp} {m:List Ev} {x:Ev} {j:Nat} (hj:j<m.length):recF S (m++[x]) j=recF S m j:=by
 have e1:(m++[x]).getD j ev0=m.getD j ev0:=by rw [getD_at (by simp;omega),getD_at hj,List.getElem_append_left hj]
 have e2:tickB (m++[x]) j=tickB m j:=by
  unfold tickB
  by_cases q:j=0
  ·rw [if_pos q,if_pos q]
  ·rw [if_neg q,if_neg q,getD_at (by simp;omega),getD_at (show j-1<m.length by omega),List.getElem_append_left (by omega)]
 unfold recF
 rw [e1,e2,List.take_append_of_le_length (by omega)]
theorem recF_end {S:Sp} {m:List Ev} {x:Ev} (h0:0≤x.1) (h1:x.1≤100000000) (hm:∀ y∈m,y.1≤x.1) (he:evE S x=0) (hv:¬ (x.2.1≠5∧onV m (thing x)=x.2.2.2.2)):recF S (m++[x]) m.length=0:=by
 have e1:(m++[x]).getD m.length ev0=x:=by rw [getD_at (by simp)];simp
 have e2:¬ (x.1<tickB (m++[x]) m.length):=by
  unfold tickB
  by_cases q:m.length=0
  ·rw [if_pos q];omega
  ·rw [if_neg q,getD_at (by simp;omega),List.getElem_append_left (by omega)]
   have:=hm _ (List.getElem_mem (show m.length-1<m.length by omega))
   omega
 unfold recF
 rw [e1,if_neg (by omega),if_pos he,List.take_left,if_neg hv]
theorem rest_good {k:Int} {i:Nat} {S:Sp} (hk:k≠1) {l:List Ev} (hr:∀ j,j<l.length→recF S l j=0) (hR:RecOk S l):∀ n,n≤l.length→∀ j,j<(restL k i (l.take n)).length→recF S (restL k i (l.take n)) j=0
 | 0,_,j,hj=>by simp [restL] at hj
 | n+1,hn,j,hj=>by
  have hnl:n<l.length:=hn
  have ih:=rest_good (k:=k) (i:=i) hk hr hR n (by omega)
  rw [List.take_succ_eq_append_getElem hnl] at hj ⊢
  obtain ⟨x,hx⟩:∃ x,l[n]=x:=⟨_,rfl⟩
  have hat:=hR.at' n hnl
  have htk:=hR.tick n hnl
  rw [hx] at hj hat htk ⊢
  unfold restL at hj ih ⊢
  rw [List.filter_append] at hj ⊢
  cases e:keepB k i x with
  | false =>
   rw [List.filter_cons_of_neg (by simp [e]),List.filter_nil,List.append_nil] at hj ⊢
   exact ih j hj
  | true =>
   rw [List.filter_cons_of_pos e,List.filter_nil] at hj ⊢
   rw [List.length_append,List.length_singleton] at hj
   by_cases q:j<((l.take n).filter (keepB k i)).length
   ·rw [recF_app q]
    exact ih j q
   ·have hje:j=((l.take n).filter (keepB k i)).length:=by omega
    rw [hje]
    refine recF_end htk.1 htk.2.1 (fun y hy=>?_) hat.2 ?_
    ·obtain ⟨r,hr2,rfl⟩:=List.getElem_of_mem (List.mem_filter.1 hy).1
     rw [List.length_take] at hr2
     rw [List.getElem_take]
     have:=hR.asc r n (by omega) hnl (by omega)
     rw [hx] at this
     exact this
    ·have h1:=hr n hnl
     unfold recF at h1
     rw [getD_at hnl,hx,if_neg hat.1,if_pos hat.2] at h1
     have h2:=onV_rest (k:=k) (i:=i) (S:=S) hk (l:=l.take n) rfl fun y hy=>by
      obtain ⟨r,hr2,rfl⟩:=List.getElem_of_mem (List.mem_of_mem_take hy)
      exact (hR.at' r hr2).2
     unfold restL at h2
     rw [h2]
     unfold offF
     rw [if_neg (keep_yes e)]
     intro q
     rw [if_pos q] at h1
     cases h1
theorem aud_rest {k:Int} {i:Nat} {S:Sp} (hk:k≠1) {l:List Ev} (hE:audE S l=0):audE S (restL k i l)=0:=by
 have hR:=audE_ok hE
 have h1:(recE S l).2=0:=by
  unfold audE at hE
  rw [if_pos hR.sp] at hE
  split at hE
  ·assumption
  ·cases hE
 have hr:∀ j,j<l.length→recF S l j=0:=by
  unfold recE at h1
  have:=hR.len
  rw [if_pos hR.sp,if_neg (by omega)] at h1
  cases hf:fst0 (recF S l) l.length with
  | some j=>rw [hf] at h1;exact absurd h1 (fst0_is hf).2.1
  | none=>exact fst0_none.1 hf
 have h2:=rest_good (k:=k) (i:=i) hk hr hR l.length (Nat.le_refl _)
 rw [List.take_length] at h2
 have h3:¬ 20000<(restL k i l).length:=by
  have:=hR.len
  have:=List.length_filter_le (keepB k i) l
  unfold restL
  omega
 unfold audE
 rw [if_pos hR.sp,recE_good hR.sp h3 h2]
 rfl
theorem snd_ext {S:Sp} {f g:Th→Int} (h:∀ t,f t=1 ↔ g t=1) {p:Pp} (hs:Snd S f p):Snd S g p:=by
 have hp:∀ d,playedL f d=playedL g d:=fun d=>by
  unfold playedL
  exact List.filter_congr fun k _=>decide_eq_decide.2 (h _)
 have ha:∀ q,Acts S f q→Acts S g q:=act_in (fun d k hd hk => .key d k hd (by rw [← hp];exact hk)) (fun i hi hon k hk ok => .cou i hi ((h _).1 hon) k (by rw [← hp];exact hk) ok) (fun i hi hon ht k hk ok => .thr i hi ((h _).1 hon) ht k hk ok)
 obtain ⟨i,hi,hon,key,hk,ok,hpb⟩:=hs
 exact ⟨i,hi,(h _).1 hon,key,ha _ hk,ok,hpb⟩
theorem sndB_ext {S:Sp} {B:(Th→Int)→Pp→Bool} (hB:SndIs S B) {f g:Th→Int} (h:∀ t,f t=1 ↔ g t=1) (p:Pp):B f p=B g p:=by
 rw [Bool.eq_iff_iff,hB,hB]
 exact ⟨snd_ext h,snd_ext fun t=>(h t).symm⟩
def IdleP (B:(Th→Int)→Pp→Bool) (l:List Ev) (k:Int) (i:Nat):Prop:=(∃ t∈ticksL [] l,upF l t (k,0,(i:Int))=1)∧∀ t∈ticksL [] l,upF l t (k,0,(i:Int))=1→∀ p,B (offF k i (upF l t)) p=B (upF l t) p
theorem off_none {k:Int} {i:Nat} {f:Th→Int} (h:f (k,0,(i:Int))≠1) (t:Th):offF k i f t=1 ↔ f t=1:=by
 unfold offF
 by_cases e:t=(k,0,(i:Int))
 ·rw [if_pos e,e]
  constructor
  ·intro q;cases q
  ·intro q;exact absurd q h
 ·rw [if_neg e]
theorem up_last {l:List Ev} (hR:Asc l) (t:Int):upF l t=(fun _=>0)∨∃ u∈ticksL [] l,upF l t=upF l u:=by
 obtain ⟨h1,h2⟩:=upN_spec hR t
 by_cases hz:upN l t=0
 ·left
  unfold upF
  rw [hz]
  rfl
 ·right
  have hi:upN l t-1<l.length:=by omega
  refine ⟨l[upN l t-1].1,mem_ticksL.2 (.inr ⟨_,List.getElem_mem hi,rfl⟩),upF_dep fun x hx=>?_⟩
  obtain ⟨j,hj,rfl⟩:=List.getElem_of_mem hx
  have h3:=h2 j hj
  have h4:=(h2 _ hi).1 (by omega)
  constructor
  ·intro q
   exact hR j _ hj hi (by have:=h3.2 q;omega)
  ·intro q
   omega
theorem vain_same {S:Sp} {B:(Th→Int)→Pp→Bool} (hB:SndIs S B) {l:List Ev} (hR:RecOk S l) {k:Int} {i:Nat} (hk:k≠1) (h:IdleP B l k i) (t:Int) (p:Pp):B (upF (restL k i l) t) p=B (upF l t) p:=by
 rw [upF_rest hk hR]
 by_cases hon:upF l t (k,0,(i:Int))=1
 ·rcases up_last hR.asc t with e | ⟨u,hu,e⟩
  ·rw [e] at hon
   cases hon
  ·rw [e] at hon ⊢
   exact h.2 u hu hon p
 ·exact sndB_ext hB (off_none hon) p
theorem vain_less {S:Sp} {B:(Th→Int)→Pp→Bool} {l:List Ev} (hR:RecOk S l) {k:Int} {i:Nat} (hk:k≠1) (h:IdleP B l k i):(restL k i l).length≠l.length:=by
 intro e
 have h1:restL k i l=l:=List.filter_sublist.eq_of_length e
 obtain ⟨t,_,hon⟩:=h.1
 have h2:=upF_rest (i:=i) hk hR t
 rw [h1] at h2
 rw [h2] at hon
 unfold offF at hon
 rw [if_pos rfl] at hon
 cases hon
theorem vain_law {S:Sp} {B:(Th→Int)→Pp→Bool} (hB:SndIs S B) {l:List Ev} (hE:audE S l=0) {k:Int} {i:Nat} (hk:k≠1) (h:IdleP B l k i):sndsL S B (restL k i l)=sndsL S B l∧audE S (restL k i l)=0∧(restL k i l).length≠l.length :=
 ⟨sndsL_same hB (audE_ok (aud_rest hk hE)) (audE_ok hE) fun t p=>vain_same hB (audE_ok hE) hk h t p,aud_rest hk hE,vain_less (audE_ok hE) hk h⟩
end Go.Proofs.YthhfmppealmblaaGreatDoor
