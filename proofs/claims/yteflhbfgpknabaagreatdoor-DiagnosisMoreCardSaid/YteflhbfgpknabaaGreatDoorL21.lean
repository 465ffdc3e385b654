/-
  A part of the proof: VB,VC,VD,VE,WB,ShelfI,VF,VG,WC,WD.
-/
import Derived.Test.YteflhbfgpknabaaGreatDoorL20
import Derived.Test.YteflhbfgpknabaaGreatDoorL02
import Derived.StillTailTactics
import Derived.Deep.RegionHeld3
import Derived.Test.YteflhbfgpknabaaGreatDoorL12
import Derived.Shelf.SlicesQ.IndexFunc
import Derived.Shelf.SlicesQ.Contains
import Derived.BigQuiet
import Derived.Deep.QuietTactic
import Derived.Test.YteflhbfgpknabaaGreatDoorL01
import Derived.Shelf.Sort.Plain
import Derived.Shelf.Slices.Turned
import Derived.Shelf.Slices.Cells
import Derived.Shelf.Slices.In.SortNone
import Derived.Test.YteflhbfgpknabaaGreatDoorL08
set_option maxRecDepth 100000
set_option maxHeartbeats 6400000
namespace Go.Proofs.YteflhbfgpknabaaGreatDoor
open Go.Lib (hid)
open Go.RowKit
theorem nani_any (x:Int) (W:World):Calls Tryz.prog 127 #[.int .i64 x] W fun e w'=>e = .returned (.bool false)∧w'=W:=by
 have hx:(x==x)=true:=by simp
 go_enter Tryz.func127,Tryz.ntmps127
 go_wp2
 go_ret
 exact ⟨rfl,rfl⟩
theorem comparei_any (a b:Int) (W:World):Calls Tryz.prog 94 #[.int .i64 a,.int .i64 b] W fun e w'=>e = .returned (.int .i64 (cmpI a b))∧w'=W:=by
 rcases Int.lt_trichotomy a b with h | h | h
 ·have HC:=hid (show cmpI a b = -1 from if_pos h)
  go_enter Tryz.func94,Tryz.ntmps94
  go_wp2_with (go_at_call 127;refine (nani_any _ _).mono ?_;rintro e w' ⟨rfl,rfl⟩)
  go_ret
  exact ⟨by rw [HC.out];rfl,rfl⟩
 ·have HC:=hid (show cmpI a b=0 from by unfold cmpI;rw [if_neg (by omega),if_neg (by omega)])
  have h1:¬ a<b:=by omega
  have h2:¬ b<a:=by omega
  go_enter Tryz.func94,Tryz.ntmps94
  go_wp2_with (go_at_call 127;refine (nani_any _ _).mono ?_;rintro e w' ⟨rfl,rfl⟩)
  go_ret
  exact ⟨by rw [HC.out];rfl,rfl⟩
 ·have HC:=hid (show cmpI a b=1 from by unfold cmpI;rw [if_neg (by omega),if_pos h])
  have h1:¬ a<b:=by omega
  go_enter Tryz.func94,Tryz.ntmps94
  go_wp2_with (go_at_call 127;refine (nani_any _ _).mono ?_;rintro e w' ⟨rfl,rfl⟩)
  go_ret
  exact ⟨by rw [HC.out];rfl,rfl⟩
def cfI (a1 a2 b1 b2:Int):Int:=orI [cmpI a1 b1,cmpI a2 b2]
theorem byPipe_any (a1 a2 b1 b2:Int) (W:World):Calls Tryz.prog 42 #[.agg #[.int .i64 a1,.int .i64 a2],.agg #[.int .i64 b1,.int .i64 b2]] W fun e w'=>e = .returned (.int .i64 (cfI a1 a2 b1 b2))∧Grw W w':=by
 have HB:=hid (show cfI a1 a2 b1 b2=orI [cmpI a1 b1,cmpI a2 b2] from rfl)
 have m1:=((Blk.new W 78 #[.int .i64 a1,.int .i64 a2]).alloc (.cells #[.int .i64 b1,.int .i64 b2] 78))
 have m2:=Blk.new (W.alloc (.cells #[.int .i64 a1,.int .i64 a2] 78)) 78 #[.int .i64 b1,.int .i64 b2]
 rw [World.size_alloc] at m2
 have M1:=hid m1
 have M2:=hid m2
 have HG:=hid (((Grw.refl W).alloc (.cells #[.int .i64 a1,.int .i64 a2] 78)).alloc (.cells #[.int .i64 b1,.int .i64 b2] 78))
 clear m1 m2
 go_enter Tryz.func42,Tryz.ntmps42
 go_wp2_with fail
 obtain ⟨W2,hW2⟩:∃ W2,(W.alloc (.cells #[.int .i64 a1,.int .i64 a2] 78)).alloc (.cells #[.int .i64 b1,.int .i64 b2] 78)=W2:=⟨_,rfl⟩
 rw [hW2] at M1 M2 HG ⊢
 have x0:W2.cell? ⟨W.heap.size,0,none⟩=some (.int .i64 a1):=M1.out.cell 0
 have x1:W2.cell? ⟨W.heap.size,1,none⟩=some (.int .i64 a2):=M1.out.cell 1
 have z0:W2.cell? ⟨W.heap.size+1,0,none⟩=some (.int .i64 b1):=M2.out.cell 0
 have z1:W2.cell? ⟨W.heap.size+1,1,none⟩=some (.int .i64 b2):=M2.out.cell 1
 clear hW2 M1 M2
 go_still_tail 10,(by kernel_rfl)
 still_call (comparei_any a1 b1 _)
 repeat still_step
 still_call (comparei_any a2 b2 _)
 repeat still_step
 refine wpStill_nil ?_
 change wpList _ _ _ _ _ W2.drew
 have HG3:=hid HG.out.drew
 obtain ⟨W3,hW3⟩:∃ W3,W2.drew=W3:=⟨_,rfl⟩
 rw [hW3] at HG3 ⊢
 clear hW3 x0 x1 z0 z1
 go_wp2_with (go_at_call 93;refine (or_any [cmpI a1 b1,cmpI a2 b2] _ _ (by simp) (ARd.of_blkI (Blk.new _ 3 _) rfl _ _ rfl)).mono ?_;rintro e w' ⟨rfl,rfl⟩)
 go_ret
 exact ⟨by rw [HB.out];rfl,HG3.out.alloc _⟩
def cfT (a1 a2 a3 b1 b2 b3:Int):Int:=orI [cmpI a1 b1,cmpI a2 b2,cmpI a3 b3]
theorem byFault_any (a1 a2 a3 b1 b2 b3:Int) (W:World):Calls Tryz.prog 48 #[.agg #[.int .i64 a1,.int .i64 a2,.int .i64 a3],.agg #[.int .i64 b1,.int .i64 b2,.int .i64 b3]] W fun e w'=>e = .returned (.int .i64 (cfT a1 a2 a3 b1 b2 b3))∧Grw W w':=by
 have HB:=hid (show cfT a1 a2 a3 b1 b2 b3=orI [cmpI a1 b1,cmpI a2 b2,cmpI a3 b3] from rfl)
 have m1:=((Blk.new W 74 #[.int .i64 a1,.int .i64 a2,.int .i64 a3]).alloc (.cells #[.int .i64 b1,.int .i64 b2,.int .i64 b3] 74))
 have m2:=Blk.new (W.alloc (.cells #[.int .i64 a1,.int .i64 a2,.int .i64 a3] 74)) 74 #[.int .i64 b1,.int .i64 b2,.int .i64 b3]
 rw [World.size_alloc] at m2
 have M1:=hid m1
 have M2:=hid m2
 have HG:=hid (((Grw.refl W).alloc (.cells #[.int .i64 a1,.int .i64 a2,.int .i64 a3] 74)).alloc (.cells #[.int .i64 b1,.int .i64 b2,.int .i64 b3] 74))
 clear m1 m2
 go_enter Tryz.func48,Tryz.ntmps48
 go_wp2_with fail
 obtain ⟨W2,hW2⟩:∃ W2,(W.alloc (.cells #[.int .i64 a1,.int .i64 a2,.int .i64 a3] 74)).alloc (.cells #[.int .i64 b1,.int .i64 b2,.int .i64 b3] 74)=W2:=⟨_,rfl⟩
 rw [hW2] at M1 M2 HG ⊢
 have x0:W2.cell? ⟨W.heap.size,0,none⟩=some (.int .i64 a1):=M1.out.cell 0
 have x1:W2.cell? ⟨W.heap.size,1,none⟩=some (.int .i64 a2):=M1.out.cell 1
 have x2:W2.cell? ⟨W.heap.size,2,none⟩=some (.int .i64 a3):=M1.out.cell 2
 have z2:W2.cell? ⟨W.heap.size+1,2,none⟩=some (.int .i64 b3):=M2.out.cell 2
 have z0:W2.cell? ⟨W.heap.size+1,0,none⟩=some (.int .i64 b1):=M2.out.cell 0
 have z1:W2.cell? ⟨W.heap.size+1,1,none⟩=some (.int .i64 b2):=M2.out.cell 1
 clear hW2 M1 M2
 go_still_tail 15,(by kernel_rfl)
 still_call (comparei_any a1 b1 _)
 repeat still_step
 still_call (comparei_any a2 b2 _)
 repeat still_step
 still_call (comparei_any a3 b3 _)
 repeat still_step
 refine wpStill_nil ?_
 change wpList _ _ _ _ _ W2.drew
 have HG3:=hid HG.out.drew
 obtain ⟨W3,hW3⟩:∃ W3,W2.drew=W3:=⟨_,rfl⟩
 rw [hW3] at HG3 ⊢
 clear hW3 x0 x1 x2 z0 z1 z2
 go_wp2_with (go_at_call 93;refine (or_any [cmpI a1 b1,cmpI a2 b2,cmpI a3 b3] _ _ (by simp) (ARd.of_blkI (Blk.new _ 3 _) rfl _ _ rfl)).mono ?_;rintro e w' ⟨rfl,rfl⟩)
 go_ret
 exact ⟨by rw [HB.out];rfl,HG3.out.alloc _⟩
theorem cfI_lt (a1 a2 b1 b2:Int):cfI a1 a2 b1 b2<0↔ppLt (a1,a2) (b1,b2):=by
 unfold cfI cmpI ppLt
 simp only [orI]
 repeat' split
 all_goals omega
theorem cfI_zero (a1 a2 b1 b2:Int):cfI a1 a2 b1 b2=0↔a1=b1∧a2=b2:=by
 unfold cfI cmpI
 simp only [orI]
 repeat' split
 all_goals omega
theorem cfT_lt (a1 a2 a3 b1 b2 b3:Int):cfT a1 a2 a3 b1 b2 b3<0↔fLt (a1,a2,a3) (b1,b2,b3):=by
 unfold cfT cmpI fLt
 simp only [orI]
 repeat' split
 all_goals omega
theorem cfT_zero (a1 a2 a3 b1 b2 b3:Int):cfT a1 a2 a3 b1 b2 b3=0↔a1=b1∧a2=b2∧a3=b3:=by
 unfold cfT cmpI
 simp only [orI]
 repeat' split
 all_goals omega
end Go.Proofs.YteflhbfgpknabaaGreatDoor
namespace Go.Proofs.YteflhbfgpknabaaGreatDoor
open Go.Lib (hid)
open Go.RowKit
theorem pairwise_of {α:Type} {R:α→α→Prop} (ht:∀ {a b c},R a b→R b c→R a c) {l:List α} (h:∀ j (hj:j+1<l.length),R (l[j]'(by omega)) l[j+1]):l.Pairwise R:=by
 have key:∀ (k i:Nat) (hk:i+k+1<l.length),R (l[i]'(by omega)) l[i+k+1]:=by
  intro k
  induction k with
  | zero=>intro i hk;exact h i hk
  | succ k ih=>intro i hk;exact ht (ih i (by omega)) (h (i+k+1) hk)
 rw [List.pairwise_iff_getElem]
 intro i j hi hj hij
 have:=key (j-i-1) i (by omega)
 simpa only [show i+(j-i-1)+1=j by omega] using this
def RisN {α:Type} (R:α→α→Prop) (l:List α) (i:Nat):Prop:=∀ j (hj:j+1<l.length),j+1<i→R (l[j]'(by omega)) l[j+1]
theorem RisN.next {α:Type} {R:α→α→Prop} {l:List α} {i:Nat} (h:RisN R l i) (hi:i<l.length) (h0:1≤i) (hr:R (l[i-1]'(by omega)) l[i]):RisN R l (i+1):=fun j hj hji=>by
 by_cases e:j+1<i
 ·exact h j hj e
 ·have:j=i-1:=by omega
  subst this
  simpa only [show i-1+1=i by omega] using hr
theorem below_undrew2 {w W:World} (h:Below w.heap.size w W):Below w.heap.size w W.drew:=h.drew
theorem risingP_any (l:List Pp) (v:Value) (w:World) (hl:l.length≤1000000) (hv:ARd w v 2 (l.map ppC)) :
  Calls Tryz.prog 41 #[v,.func (.func 42) #[] #[]] w fun e w'=>e = .returned (.bool (decide (l.Pairwise ppLt)))∧Below w.heap.size w w':=by
 obtain ⟨a,c,ev⟩:=hv.form
 rw [List.length_map] at ev
 subst ev
 have HV:=hid hv
 have HR0:=hid (show RisN ppLt l 1 from fun j _ h=>absurd h (by omega))
 have HB0:=hid (Below.refl w.heap.size w)
 clear hv
 go_enter Tryz.func41,Tryz.ntmps41
 go_wp2
 go_loopw [5] (fun y wr=>∃ i:Nat,1≤i∧(i≤l.length∨i=1)∧y = .int .i64 i∧RowKit.Hid (RisN ppLt l i)∧RowKit.Hid (Below w.heap.size w wr)) (fun y _=>l.length-(intOf y).toNat)
 case atStart=>exact ⟨1,Nat.le_refl _,.inr rfl,rfl,HR0,HB0⟩
 clear HR0 HB0
 obtain ⟨i,hi0,hi,rfl,hR,hB⟩:=hrel
 by_cases hil:i<l.length
 ·have hi2:(i:Int)<(l.length:Int):=by omega
  have hj:i-1<l.length:=by omega
  obtain ⟨b,o,c',ev,_,q0,q1⟩:=(HV.out.later hB.out).ppAt i hil
  cases ev
  obtain ⟨b',o',c',ev,_,p0,p1⟩:=(HV.out.later hB.out).ppAt (i-1) hj
  cases ev
  have HN:=hid (fun h=>hR.out.next hil hi0 h)
  have HNO:=hid (fun (h:¬ ppLt l[i-1] l[i])=>show decide (l.Pairwise ppLt)=false from decide_eq_false fun hp=>h (List.pairwise_iff_getElem.1 hp (i-1) i hj hil (by omega)))
  have e1:IntKind.i64.wrap ((i:Int)-1)=(i:Int)-1:=IntWalk.i64_in _ (by omega)
  have e2:0≤(i:Int)-1:=by omega
  have e3:((i:Int)-1).toNat=i-1:=by omega
  have e4:(i:Int)-1<(l.length:Int):=by omega
  have e5:(1:Int)≤(i:Int):=by omega
  obtain ⟨x,hx⟩:∃ x,l[i-1]=x:=⟨_,rfl⟩
  obtain ⟨y,hy⟩:∃ y,l[i]=y:=⟨_,rfl⟩
  rw [hx] at p0 p1 HN HNO
  rw [hy] at q0 q1 HN HNO
  obtain ⟨x1,x2⟩:=x
  obtain ⟨y1,y2⟩:=y
  simp only at p0 q0 p1 q1
  have HLT:=hid (cfI_lt x1 x2 y1 y2)
  clear hx hy hj
  go_upto_region 4 with fail
  have HB2:=hid (below_undrew2 hB.out)
  go_still_tail 10,(by kernel_rfl)
  repeat still_step
  try refine wpStill_nil ?_
  try change wpList _ _ _ _ _ wr.drew
  go_wp2_with fail
  refine (byPipe_any x1 x2 y1 y2 _).mono ?_
  rintro e w2 ⟨rfl,hg⟩
  have HB3:=hid (below_step HB2.out hg.below)
  clear hg hB p0 q0 p1 q1 e1 e2 e3 e4 e5
  obtain ⟨z,hz⟩:∃ z,cfI x1 x2 y1 y2=z:=⟨_,rfl⟩
  rw [hz] at HLT ⊢
  clear hz
  by_cases hzz:z<0
  ·have d1:decide (0≤z)=false:=decide_eq_false (by omega)
   have HR2:=hid (HN.out (HLT.out.1 hzz))
   clear hzz hR
   go_wp2
   go_roundw
   case rel=>exact ⟨i+1,by omega,by omega,by go_num,HR2,HB3⟩
   case measure=>simp [intOf];omega
  ·have d1:decide (0≤z)=true:=decide_eq_true (by omega)
   have HE:=hid (HNO.out fun h=>hzz (HLT.out.2 h))
   clear hzz
   go_wp2
   go_ret
   exact ⟨by rw [HE.out];rfl,HB3.out⟩
 ·have hi2:¬ (i:Int)<(l.length:Int):=by omega
  have HE:=hid (show decide (l.Pairwise ppLt)=true from decide_eq_true (pairwise_of (R:=ppLt) (fun h k=>ppLt_trans h k) fun j hj=>hR.out j hj (by omega)))
  go_wp2
  go_ret
  exact ⟨by rw [HE.out];rfl,hB.out⟩
end Go.Proofs.YteflhbfgpknabaaGreatDoor
namespace Go.Proofs.YteflhbfgpknabaaGreatDoor
open Go.Lib (hid)
open Go.RowKit Go.Shelf
theorem hasNot_any (v1 v2 v3 v4:Value) (S:Sp) (hc:(checkP S).2=0) (fp:Nat→Value) (w:World) (hsp:SpRd w v1 v2 v3 v4 fp S) (SB:Nat) (hb:Blk w SB 27 #[v1,v2,v3,v4]) (a t:Int) :
  Calls Tryz.prog 44 #[.agg #[.int .i64 a,.int .i64 t],.pointer (some ⟨SB,0,none⟩)] w fun e w'=>e = .returned (.bool !(decide (((a,t):Pp)∈allFrom 0 S.rs)))∧Below w.heap.size w w':=by
 have hb0:Below w.heap.size w (w.alloc (.cells #[.int .i64 a,.int .i64 t] 78)):=(Below.refl _ _).alloc (Nat.le_refl _) _
 have HB:=hid hb0
 obtain ⟨s0,s1,s2,s3⟩:=(hb.below hb0).four
 have HHAS:=hid (has_any v1 v2 v3 v4 S hc fp _ (hsp.later hb0) a t)
 clear hb hb0 hsp hc
 go_enter Tryz.func44,Tryz.ntmps44
 go_wp2_with fail
 refine HHAS.out.mono ?_
 rintro e W ⟨rfl,hb⟩
 have hb2:=hid (below_step HB.out hb)
 clear hb HHAS s0 s1 s2 s3
 go_wp2
 go_ret
 exact ⟨rfl,hb2.out⟩
theorem slice_inj {b o n c b' o' n' c':Nat} (h:Value.slice (some ⟨b,o,none⟩) n c = .slice (some ⟨b',o',none⟩) n' c'):b=b'∧o=o':=by
 injection h with h1
 injection h1 with h2
 injection h2 with h3 h4
 exact ⟨h3,h4⟩
theorem getBang {α:Type} [Inhabited α] {l:List α} {j:Nat} (hj:j<l.length):l[j]! = l[j]:=getElem!_pos l j hj
theorem noIx_pipes (a:Option Addr) (c:Nat) (fv:Value) (w:World) :
  Calls Tryz.prog 95 #[.slice a 0 c,fv] w fun e w'=>e = .returned (.int .i64 (-1))∧Below w.heap.size w w':=by
 have HB:=hid (Below.refl w.heap.size w)
 go_enter Tryz.func95,Tryz.ntmps95
 go_wp2
 go_loopw [8] (fun x wr=>x = .int .i64 0∧RowKit.Hid (Below w.heap.size w wr)) (fun _ _=>0)
 case atStart=>exact ⟨rfl,HB⟩
 obtain ⟨rfl,hB⟩:=hrel
 go_wp2
 go_ret
 exact ⟨rfl,hB.out⟩
theorem anyPipe_any (l:List Pp) (v:Value) (w:World) (hv:ARd w v 2 (l.map ppC)) (hl:l.length≤1000000) (p:Pp→Bool) (g:Nat) (lb:Array Value) (eg:∀ args w,(callFunc g args).run Tryz.prog w = .ok (.enter g args) w) (hp:PredBelow Tryz.prog g lb (fun x:Pp => .agg (ppC x).toArray) p w) :
  Calls Tryz.prog 43 #[v,.func (.func g) #[] lb] w fun e w'=>e = .returned (.bool (l.any p))∧Below w.heap.size w w':=by
 cases l with
 | nil =>
  obtain ⟨a,c,ev⟩:=hv.form
  have ev2:v = .slice a 0 c:=ev
  subst ev2
  have HI:=hid (fun W=>noIx_pipes a c (.func (.func g) #[] lb) W)
  clear hv hp ev
  go_enter Tryz.func43,Tryz.ntmps43
  go_wp2_with fail
  refine (HI.out _).mono ?_
  rintro e w' ⟨rfl,hb⟩
  have HB:=hid hb
  clear hb HI
  go_wp2
  go_ret
  exact ⟨rfl,HB.out⟩
 | cons x l =>
  obtain ⟨b,o,c,ev,hlt,_⟩:=hv.ppAt 0 (by simp)
  have h:=AnyQ.slices_ContainsFunc Tryz.anyPipe 2 (fun w=>by kernel_rfl) (fun w=>by kernel_rfl) ppC (fun _=>rfl) p g lb eg b o (x :: l).length c (x :: l) w hp (Nat.le_refl _) (by omega) hlt (by
   intro j hj i u hu
   obtain ⟨b',o',c',ev',_,hc⟩:=hv.at j (by simpa using hj)
   rw [ev] at ev'
   obtain ⟨rfl,rfl⟩:=slice_inj ev'
   rw [List.getElem_map] at hc
   rw [getBang hj] at hu
   exact hc i u hu)
  rw [List.take_length,← ev] at h
  exact h
end Go.Proofs.YteflhbfgpknabaaGreatDoor
namespace Go.Proofs.YteflhbfgpknabaaGreatDoor
open Go.Lib (hid)
open Go.RowKit Go.Shelf
theorem run_eqFt (a b c x y z:Int) (w:World):(binOp .eql 74 (.agg #[.int .i64 a,.int .i64 b,.int .i64 c]) (.agg #[.int .i64 x,.int .i64 y,.int .i64 z])).run Tryz.prog w = .ok (.bool (a==x&&(b==y&&c==z))) w:=by
 rw [run_eql_struct]
 rw [run_equalIn_agg w 9999 74 _ _ (by kernel_rfl) (by kernel_rfl)]
 simp only [Program.fieldsOf,Tryz.underlying74]
 simp [go_sem,Tryz.underlying3,part]
 by_cases h1:a=x <;> by_cases h2:b=y <;> by_cases h3:c=z <;> simp [h1,h2,h3]
theorem ftEq:EqlAt Tryz.prog 74 (fun x:Ft => .agg (ftC x).toArray) (fun x y=>x==y):=by
 refine ⟨fun x y w=>?_,GuardAt.agg _ (by kernel_rfl)⟩
 obtain ⟨a,b,c⟩:=x
 obtain ⟨d,e,f⟩:=y
 refine (run_eqFt a b c d e f w).trans ?_
 congr 2
theorem noIn_any (a:Option Addr) (c:Nat) (k i t:Int) (w:World) :
  Calls Tryz.prog 53 #[.slice a 0 c,.agg #[.int .i64 k,.int .i64 i,.int .i64 t]] w fun e w'=>e = .returned (.bool false)∧Below w.heap.size w w':=by
 have hb0:Below w.heap.size w (w.alloc (.cells #[.int .i64 k,.int .i64 i,.int .i64 t] 74)):=(Below.refl _ _).alloc (Nat.le_refl _) _
 have HB:=hid hb0
 have HIX:=hid (fun (W:World)=>show Calls Tryz.prog 98 #[.slice a 0 c,.agg #[.int .i64 k,.int .i64 i,.int .i64 t]] W fun e w'=>e = .returned (.int .i64 (-1))∧Below W.heap.size W w' from by
  have HB1:=hid (show Below W.heap.size W (W.alloc (.cells #[.int .i64 k,.int .i64 i,.int .i64 t] 74)) from (Below.refl _ _).alloc (Nat.le_refl _) _)
  go_enter Tryz.func98,Tryz.ntmps98
  go_wp2
  go_loopw [8] (fun x wr=>x = .int .i64 0∧RowKit.Hid (Below W.heap.size W wr)) (fun _ _=>0)
  case atStart=>exact ⟨rfl,HB1⟩
  obtain ⟨rfl,hB⟩:=hrel
  go_wp2
  go_ret
  exact ⟨rfl,hB.out⟩)
 clear hb0
 go_enter Tryz.func53,Tryz.ntmps53
 go_wp2_with fail
 refine (HIX.out _).mono ?_
 rintro e w' ⟨rfl,hb⟩
 have HB2:=hid (below_step HB.out hb)
 clear hb
 go_wp2
 go_ret
 exact ⟨rfl,HB2.out⟩
theorem inFaults_any (l:List Ft) (v:Value) (x:Ft) (w:World) (hv:ARd w v 3 (l.map ftC)) (hl:l.length≤1000000) :
  Calls Tryz.prog 53 #[v,.agg #[.int .i64 x.1,.int .i64 x.2.1,.int .i64 x.2.2]] w fun e w'=>e = .returned (.bool (decide (x∈l)))∧Below w.heap.size w w':=by
 cases l with
 | nil =>
  obtain ⟨a,c,ev⟩:=hv.form
  have ev2:v = .slice a 0 c:=ev
  subst ev2
  simpa using noIn_any a c x.1 x.2.1 x.2.2 w
 | cons y l =>
  obtain ⟨b,o,c,ev,hlt,_⟩:=hv.ftAt 0 (by simp)
  have h:=AnyQ.slices_Contains Tryz.inFaults 3 (fun w=>by kernel_rfl) (fun w=>by kernel_rfl) ftC (fun _=>rfl) (fun x y=>x==y) ftEq b o (y :: l).length c (y :: l) x w (Nat.le_refl _) (by omega) (by
   intro j hj i u hu
   obtain ⟨b',o',c',ev',_,hc⟩:=hv.at j (by simpa using hj)
   rw [ev] at ev'
   obtain ⟨rfl,rfl⟩:=slice_inj ev'
   rw [List.getElem_map] at hc
   rw [getBang hj] at hu
   exact hc i u hu)
  rw [List.take_length,← ev,show ((y :: l).any fun z=>x==z)=decide (x∈y :: l) from by rw [Bool.eq_iff_iff,List.any_eq_true,decide_eq_true_iff];exact ⟨fun ⟨z,hz,e⟩=>by rw [eq_of_beq e];exact hz,fun h=>⟨x,h,beq_self_eq_true _⟩⟩] at h
  exact h
def oppR (k:Int):Int:=wrap64 (bits BinOp.xor IntKind.i64 (wrap64 (k-1)) 1+1)
theorem oppR_any (k a t:Int) (w:World) :
  Calls Tryz.prog 54 #[.agg #[.int .i64 k,.int .i64 a,.int .i64 t]] w fun e w'=>e = .returned (.agg #[.int .i64 (oppR k),.int .i64 a,.int .i64 t])∧Below w.heap.size w w':=by
 have hb:=below_two w (.cells #[.int .i64 (oppR k),.int .i64 a,.int .i64 t] 74) (.cells #[.int .i64 (oppR k),.int .i64 a,.int .i64 t] 74)
 have HB:=hid hb
 have hk2:=Blk.new (w.alloc (.cells #[.int .i64 (oppR k),.int .i64 a,.int .i64 t] 74)) 74 #[.int .i64 (oppR k),.int .i64 a,.int .i64 t]
 rw [World.size_alloc] at hk2
 have HK:=hid hk2
 clear hb hk2
 go_enter Tryz.func54,Tryz.ntmps54
 go_wp2
 exact bodyPost_ret (v:=.agg #[.int .i64 (oppR k),.int .i64 a,.int .i64 t]) (results_cell_row rfl _ _ (w.heap.size+1) 74 _ (0,0) _ rfl HK.out Tryz.underlying74 rfl (ft_size rfl)) rfl ⟨rfl,HB.out⟩
theorem oppR_is {k a t:Int} (hk:1≤k∧k≤6):(oppR k,a,t)=opp (k,a,t):=by
 have h:=opp_bits (a:=a) (t:=t) hk
 unfold oppR
 have h2:wrap64 (k-1)=k-1:=by
  have:k=1∨k=2∨k=3∨k=4∨k=5∨k=6:=by omega
  rcases this with rfl | rfl | rfl | rfl | rfl | rfl <;> decide +kernel
 rw [h2,h]
 rfl
end Go.Proofs.YteflhbfgpknabaaGreatDoor
namespace Go.Proofs.YteflhbfgpknabaaGreatDoor
open Go.Lib (hid)
open Go.RowKit Go.Shelf
theorem in30_any (l:List Ft) (v:Value) (a b c:Int) (w:World) (hl:l.length≤1000000) (hv:ARd w v 3 (l.map ftC)) :
  Calls Tryz.prog 65 #[v,.agg #[.int .i64 a,.int .i64 b,.int .i64 c]] w fun e w'=>e = .returned (.bool (decide (((a,b,c):Ft)∈l)))∧Below w.heap.size w w':=by
 obtain ⟨av,cv,ev⟩:=hv.ftForm
 subst ev
 have hb0:Below w.heap.size w (w.alloc (.cells #[.int .i64 a,.int .i64 b,.int .i64 c] 74)):=(Below.refl _ _).alloc (Nat.le_refl _) _
 have HB0:=hid hb0
 have HK0:=hid (Blk.new w 74 #[.int .i64 a,.int .i64 b,.int .i64 c])
 have HV:=hid hv
 have HN0:=hid (show ∀ j (hj:j<l.length),j<0→l[j]≠(a,b,c) from fun _ _ h=>absurd h (Nat.not_lt_zero _))
 clear hv hb0
 go_enter Tryz.func65,Tryz.ntmps65
 go_wp2
 generalize w.alloc (.cells #[.int .i64 a,.int .i64 b,.int .i64 c] 74)=W0 at *
 go_loopw [5] (fun x wr=>∃ i:Nat,i≤l.length∧x = .int .i64 i∧RowKit.Hid (∀ j (hj:j<l.length),j<i→l[j]≠(a,b,c))∧RowKit.Hid (Below w.heap.size w wr)∧RowKit.Hid (Blk wr w.heap.size 74 #[.int .i64 a,.int .i64 b,.int .i64 c])) (fun x _=>l.length-(intOf x).toNat)
 case atStart=>exact ⟨0,Nat.zero_le _,rfl,HN0,HB0,HK0⟩
 clear HN0 HB0 HK0
 obtain ⟨i,hi,rfl,hN,hB,hK⟩:=hrel
 by_cases hil:i<l.length
 ·have hi2:(i:Int)<(l.length:Int):=by omega
  obtain ⟨bb,o,c',ev,_,q0,q1,q2⟩:=(HV.out.later hB.out).ftAt i hil
  cases ev
  obtain ⟨z0,z1,z2⟩:wr.cell? ⟨w.heap.size,0,none⟩=some (.int .i64 a)∧wr.cell? ⟨w.heap.size,1,none⟩=some (.int .i64 b)∧wr.cell? ⟨w.heap.size,2,none⟩=some (.int .i64 c):=⟨hK.out.cell 0,hK.out.cell 1,hK.out.cell 2⟩
  have HNX:=hid (fun (h:l[i]≠(a,b,c))=>show ∀ j (hj:j<l.length),j<i+1→l[j]≠(a,b,c) from fun j hj hji=>by
   by_cases e:j=i
   ·subst e;exact h
   ·exact hN.out j hj (by omega))
  have HYE:=hid (fun (h:l[i]=(a,b,c))=>show decide (((a,b,c):Ft)∈l)=true from decide_eq_true (by rw [← h];exact List.getElem_mem hil))
  obtain ⟨x,hx⟩:∃ x,l[i]=x:=⟨_,rfl⟩
  rw [hx] at q0 q1 q2 HNX HYE
  obtain ⟨x1,x2,x3⟩:=x
  simp only at q0 q1 q2
  have heq:=run_eqFt x1 x2 x3 a b c
  have HBE:=hid (show (x1==a&&(x2==b&&x3==c))=true↔((x1,x2,x3):Ft)=(a,b,c) from by
   simp only [Bool.and_eq_true,beq_iff_eq,Prod.mk.injEq])
  obtain ⟨q,hq⟩:∃ q,(x1==a&&(x2==b&&x3==c))=q:=⟨_,rfl⟩
  rw [hq] at heq HBE
  clear hx hq hN
  go_upto_region 4 with fail
  go_quiet (fail)
  have HB2:=hid (below_drewN hB.out nq)
  have HK2:=hid (hK.out.below (below_drewN (Below.refl wr.heap.size wr) nq))
  clear hB hK q0 q1 q2 z0 z1 z2 heq
  cases q with
  | true =>
   have HE:=hid (HYE.out (HBE.out.1 rfl))
   go_wp2
   go_ret
   exact ⟨by rw [HE.out];rfl,HB2.out⟩
  | false =>
   have HN2:=hid (HNX.out fun h=>absurd (HBE.out.2 h) (by decide))
   go_wp2
   go_roundw
   case rel=>exact ⟨i+1,by omega,by go_num,HN2,HB2,HK2⟩
   case measure=>simp [intOf];omega
 ·have hi2:¬ (i:Int)<(l.length:Int):=by omega
  have HE:=hid (show decide (((a,b,c):Ft)∈l)=false from decide_eq_false fun h=>by
   obtain ⟨j,hj,e⟩:=List.getElem_of_mem h
   exact hN.out j hj (by omega) e)
  go_wp2
  go_ret
  exact ⟨by rw [HE.out];rfl,hB.out⟩
theorem con_odd {F:List Ft} (h:∀ x∈F,1≤x.1∧x.1≤6):conB F=F.any fun x=>decide (x.1 % 2=1)&&decide (((x.1+1,x.2):Ft)∈F):=by
 unfold conB
 rw [Bool.eq_iff_iff,List.any_eq_true,List.any_eq_true]
 constructor
 ·rintro ⟨x,hx,h1⟩
  have h1:=of_decide_eq_true h1
  unfold opp at h1
  by_cases ho:x.1 % 2=1
  ·rw [if_pos ho] at h1
   exact ⟨x,hx,by rw [Bool.and_eq_true,decide_eq_true_iff,decide_eq_true_iff];exact ⟨ho,h1⟩⟩
  ·rw [if_neg ho] at h1
   have hk:=h x hx
   refine ⟨_,h1,?_⟩
   rw [Bool.and_eq_true,decide_eq_true_iff,decide_eq_true_iff]
   refine ⟨by simp only;omega,?_⟩
   simp only
   rw [show x.1-1+1=x.1 by omega]
   exact hx
 ·rintro ⟨x,hx,h1⟩
  rw [Bool.and_eq_true,decide_eq_true_iff,decide_eq_true_iff] at h1
  refine ⟨x,hx,decide_eq_true ?_⟩
  unfold opp
  rw [if_pos h1.1]
  exact h1.2
theorem contra30_any (F:List Ft) (v:Value) (w:World) (hF:∀ x∈F,1≤x.1∧x.1≤6) (hl:F.length≤1000000) (hv:ARd w v 3 (F.map ftC)) :
  Calls Tryz.prog 30 #[v] w fun e w'=>e = .returned (.bool (conB F))∧Below w.heap.size w w':=by
 rw [con_odd hF]
 obtain ⟨av,cv,ev⟩:=hv.ftForm
 subst ev
 have HV:=hid hv
 have HF:=hid hF
 have HB0:=hid (Below.refl w.heap.size w)
 have HIN:=hid (fun (W:World) (hb:Below w.heap.size w W) (a b c:Int)=>in30_any F (.slice av F.length cv) a b c W hl (hv.later hb))
 have HN0:=hid (show (F.take 0).any (fun x=>decide (x.1 % 2=1)&&decide (((x.1+1,x.2):Ft)∈F))=false from rfl)
 clear hv hF
 go_enter Tryz.func30,Tryz.ntmps30
 go_wp2
 go_loopw [3] (fun x wr=>∃ i:Nat,i≤F.length∧x = .int .i64 i∧RowKit.Hid ((F.take i).any (fun x=>decide (x.1 % 2=1)&&decide (((x.1+1,x.2):Ft)∈F))=false)∧RowKit.Hid (Below w.heap.size w wr)) (fun x _=>F.length-(intOf x).toNat)
 case atStart=>exact ⟨0,Nat.zero_le _,rfl,HN0,HB0⟩
 clear HN0 HB0
 obtain ⟨i,hi,rfl,hN,hB⟩:=hrel
 by_cases hil:i<F.length
 ·have hi2:(i:Int)<(F.length:Int):=by omega
  obtain ⟨bb,o,c',ev,hbl,q0,q1,q2⟩:=(HV.out.later hB.out).ftAt i hil
  cases ev
  have HK:=HF.out _ (List.getElem_mem hil)
  have HNX:=hid (show (F.take (i+1)).any (fun x=>decide (x.1 % 2=1)&&decide (((x.1+1,x.2):Ft)∈F))=(decide (F[i].1 % 2=1)&&decide (((F[i].1+1,F[i].2):Ft)∈F)) from by
   rw [List.take_succ_eq_append_getElem hil,List.any_append,hN.out,Bool.false_or,List.any_cons,List.any_nil,Bool.or_false])
  have HYE:=hid (fun (h:(decide (F[i].1 % 2=1)&&decide (((F[i].1+1,F[i].2):Ft)∈F))=true)=>show F.any (fun x=>decide (x.1 % 2=1)&&decide (((x.1+1,x.2):Ft)∈F))=true from List.any_eq_true.2 ⟨_,List.getElem_mem hil,h⟩)
  obtain ⟨x,hx⟩:∃ x,F[i]=x:=⟨_,rfl⟩
  rw [hx] at q0 q1 q2 HNX HYE HK
  obtain ⟨x1,x2,x3⟩:=x
  simp only at q0 q1 q2 HK
  have e1:IntKind.i64.wrap (x1+1)=x1+1:=IntWalk.i64_in _ (by omega)
  have hx0:0≤x1:=by omega
  have hx6:x1≤6:=HK.2
  clear hx hN
  go_upto_region 6 with fail
  have hb4:Below wr.heap.size wr (wr.alloc (.cells #[.int .i64 (x1+1),.int .i64 x2,.int .i64 x3] 74)):=(Below.refl _ wr).alloc (Nat.le_refl _) _
  have HB4:=hid (below_step hB.out hb4)
  have hk4:=Blk.new wr 74 #[.int .i64 (x1+1),.int .i64 x2,.int .i64 x3]
  obtain ⟨y0,y1,y2⟩:_∧_∧_:=⟨hk4.cell 0,hk4.cell 1,hk4.cell 2⟩
  simp only [List.getElem?_toArray,List.getElem?_cons_zero,List.getElem?_cons_succ] at y0 y1 y2
  replace q0:=(hb4.cell (cell_size q0)).trans q0
  obtain ⟨X,hXe⟩:∃ X,wr.heap.size=X:=⟨_,rfl⟩
  rw [hXe] at y0 y1 y2 ⊢
  generalize wr.alloc (.cells #[.int .i64 (x1+1),.int .i64 x2,.int .i64 x3] 74)=W4 at *
  clear hb4 hk4 hXe hB q1 q2
  have ht:Int.tmod x1 2=x1 % 2:=Int.tmod_eq_emod_of_nonneg hx0
  by_cases ho:x1 % 2=1
  ·have ho2:(x1 % 2==1)=true:=by rw [ho];rfl
   have hdo:decide (x1 % 2=1)=true:=decide_eq_true ho
   have HNX2:=hid (HNX.out.trans (by rw [hdo,Bool.true_and]))
   have HYE2:=hid (fun (h:decide (((x1+1,x2,x3):Ft)∈F)=true)=>HYE.out (by rw [hdo,Bool.true_and];exact h))
   clear ho hdo HNX HYE
   go_wp2_with fail
   refine (HIN.out _ HB4.out (x1+1) x2 x3).mono ?_
   rintro e W5 ⟨rfl,hb5⟩
   have HB5:=hid (below_step HB4.out hb5)
   clear hb5 HB4 y0 y1 y2 q0
   obtain ⟨q,hq⟩:∃ q,decide (((x1+1,x2,x3):Ft)∈F)=q:=⟨_,rfl⟩
   rw [hq] at HNX2 HYE2 ⊢
   clear hq
   cases q with
   | true =>
    have HE:=hid (HYE2.out rfl)
    go_wp2
    go_ret
    exact ⟨by rw [HE.out];rfl,HB5.out⟩
   | false =>
    go_wp2
    go_roundw
    case rel=>exact ⟨i+1,by omega,by go_num,HNX2,HB5⟩
    case measure=>simp [intOf];omega
  ·have ho2:(x1 % 2==1)=false:=by rw [beq_eq_false_iff_ne];exact ho
   have HNX2:=hid (HNX.out.trans (by rw [decide_eq_false ho,Bool.false_and]))
   clear ho HNX HYE
   go_wp2
   go_roundw
   case rel=>exact ⟨i+1,by omega,by go_num,HNX2,HB4⟩
   case measure=>simp [intOf];omega
 ·have hi2:¬ (i:Int)<(F.length:Int):=by omega
  have hie:i=F.length:=by omega
  have HE:=hid (show F.any (fun x=>decide (x.1 % 2=1)&&decide (((x.1+1,x.2):Ft)∈F))=false by have:=hN.out;rwa [hie,List.take_length] at this)
  clear hie
  go_wp2
  go_ret
  exact ⟨by rw [HE.out];rfl,hB.out⟩
end Go.Proofs.YteflhbfgpknabaaGreatDoor
namespace Go.Proofs
open Go.Shelf
def Tryz.lays189_ren:Go.Shelf.Ren:=⟨fun | 189=>114 | 125=>109 | 257=>150 | 128=>139 | 129=>140 | 294=>172 | 295=>173 | 296=>174 | 297=>175 | 298=>176 | 299=>177 | 216=>178 | 300=>179 | 301=>180 | 328=>191 | 329=>165 | 330=>166 | 331=>192 | 332=>193 | 215=>127 | 343=>205 | n=>n,fun | 28=>30 | 3=>3 | 46=>164 | 0=>0 | 51=>191 | 53=>193 | 4=>4 | 183=>185 | 182=>184 | 131=>124 | 5=>5 | 9=>9 | 218=>221 | 222=>225 | 228=>243 | 229=>244 | n=>n,fun | n=>n⟩
theorem Tryz.lays189:Go.Proofs.Lays.n189 Tryz.prog Tryz.lays189_ren:={
 mixed:=by kernel_rfl
 f125:=Tryz.func109.trans (congrArg some (by kernel_rfl))
 f128:=Tryz.func139.trans (congrArg some (by kernel_rfl))
 f129:=Tryz.func140.trans (congrArg some (by kernel_rfl))
 f189:=Tryz.func114.trans (congrArg some (by kernel_rfl))
 f215:=Tryz.func127.trans (congrArg some (by kernel_rfl))
 f216:=Tryz.func178.trans (congrArg some (by kernel_rfl))
 f257:=Tryz.func150.trans (congrArg some (by kernel_rfl))
 f294:=Tryz.func172.trans (congrArg some (by kernel_rfl))
 f295:=Tryz.func173.trans (congrArg some (by kernel_rfl))
 f296:=Tryz.func174.trans (congrArg some (by kernel_rfl))
 f297:=Tryz.func175.trans (congrArg some (by kernel_rfl))
 f298:=Tryz.func176.trans (congrArg some (by kernel_rfl))
 f299:=Tryz.func177.trans (congrArg some (by kernel_rfl))
 f300:=Tryz.func179.trans (congrArg some (by kernel_rfl))
 f301:=Tryz.func180.trans (congrArg some (by kernel_rfl))
 f328:=Tryz.func191.trans (congrArg some (by kernel_rfl))
 f329:=Tryz.func165.trans (congrArg some (by kernel_rfl))
 f330:=Tryz.func166.trans (congrArg some (by kernel_rfl))
 f331:=Tryz.func192.trans (congrArg some (by kernel_rfl))
 f332:=Tryz.func193.trans (congrArg some (by kernel_rfl))
 f343:=Tryz.func205.trans (congrArg some (by kernel_rfl))
 t0:=Tryz.underlying0
 a0:=Tryz.isAgg0
 z0:=Tryz.sizeOf0
 v0:=Tryz.zeroValue0
 t3:=Tryz.underlying3
 a3:=Tryz.isAgg3
 z3:=Tryz.sizeOf3
 v3:=Tryz.zeroValue3
 t4:=Tryz.underlying4
 a4:=Tryz.isAgg4
 z4:=Tryz.sizeOf4
 v4:=Tryz.zeroValue4
 t5:=Tryz.underlying5
 a5:=Tryz.isAgg5
 z5:=Tryz.sizeOf5
 v5:=Tryz.zeroValue5
 t9:=Tryz.underlying9
 a9:=Tryz.isAgg9
 z9:=Tryz.sizeOf9
 v9:=Tryz.zeroValue9
 t28:=Tryz.underlying30
 a28:=Tryz.isAgg30
 z28:=Tryz.sizeOf30
 v28:=Tryz.zeroValue30
 t46:=Tryz.underlying164
 a46:=Tryz.isAgg164
 z46:=Tryz.sizeOf164
 v46:=Tryz.zeroValue164
 t51:=Tryz.underlying191
 a51:=Tryz.isAgg191
 z51:=Tryz.sizeOf191
 v51:=Tryz.zeroValue191
 t53:=Tryz.underlying193
 a53:=Tryz.isAgg193
 z53:=Tryz.sizeOf193
 v53:=Tryz.zeroValue193
 t131:=Tryz.underlying124
 a131:=Tryz.isAgg124
 z131:=Tryz.sizeOf124
 v131:=Tryz.zeroValue124
 t182:=Tryz.underlying184
 a182:=Tryz.isAgg184
 z182:=Tryz.sizeOf184
 v182:=Tryz.zeroValue184
 t183:=Tryz.underlying185
 a183:=Tryz.isAgg185
 z183:=Tryz.sizeOf185
 v183:=Tryz.zeroValue185
 t218:=Tryz.underlying221
 a218:=Tryz.isAgg221
 z218:=Tryz.sizeOf221
 v218:=Tryz.zeroValue221
 t222:=Tryz.underlying225
 a222:=Tryz.isAgg225
 z222:=Tryz.sizeOf225
 v222:=Tryz.zeroValue225
 t228:=Tryz.underlying243
 a228:=Tryz.isAgg243
 z228:=Tryz.sizeOf243
 v228:=Tryz.zeroValue243
 t229:=Tryz.underlying244
 a229:=Tryz.isAgg244
 z229:=Tryz.sizeOf244
 v229:=Tryz.zeroValue244 }
open Go.Sort Go.RowKit in
theorem Tryz.slices_Sort_int (blk off cap:Nat) (zs:List Int) (w:World) (hH:Holds (Value.int .i64) w blk off zs.toArray) (hblk:blk<w.heap.size) (hsz:zs.length<4611686018427387904) :
  Calls Tryz.prog 114 #[.slice (some ⟨blk,off,none⟩) zs.length cap] w fun e w' =>
   e = .returned (.tuple #[])∧∃ n os,w'=grow (putRow (Value.int .i64) (Sort.ahead w n) blk off (zs.mergeSort fun x y=>decide (x≤y)).toArray) os:=Any.slices_Sort_int Tryz.lays189 blk off cap zs w hH hblk hsz
def Tryz.lays113_ren:Go.Shelf.Ren:=⟨fun | 113=>102 | n=>n,fun | 28=>30 | 3=>3 | 4=>4 | 9=>9 | 20=>20 | 0=>0 | n=>n,fun | n=>n⟩
theorem Tryz.lays113:Go.Proofs.Lays.n113 Tryz.prog Tryz.lays113_ren:={
 mixed:=by kernel_rfl
 f113:=Tryz.func102.trans (congrArg some (by kernel_rfl))
 t0:=Tryz.underlying0
 a0:=Tryz.isAgg0
 z0:=Tryz.sizeOf0
 v0:=Tryz.zeroValue0
 t3:=Tryz.underlying3
 a3:=Tryz.isAgg3
 z3:=Tryz.sizeOf3
 v3:=Tryz.zeroValue3
 t4:=Tryz.underlying4
 a4:=Tryz.isAgg4
 z4:=Tryz.sizeOf4
 v4:=Tryz.zeroValue4
 t9:=Tryz.underlying9
 a9:=Tryz.isAgg9
 z9:=Tryz.sizeOf9
 v9:=Tryz.zeroValue9
 t20:=Tryz.underlying20
 a20:=Tryz.isAgg20
 z20:=Tryz.sizeOf20
 v20:=Tryz.zeroValue20
 t28:=Tryz.underlying30
 a28:=Tryz.isAgg30
 z28:=Tryz.sizeOf30
 v28:=Tryz.zeroValue30 }
open Go.Lib in
theorem Tryz.slices_Max_int (b off n c:Nat) (zs:List Int) (w:World) (hn:0<n) (hz:n≤zs.length) (hbig:n≤9223372036854775807) (hc:∀ j,j<zs.length→w.cell? ⟨b,off+j,none⟩=some (.int .i64 (zs.getD j 0))) :
  Calls Tryz.prog 102 #[.slice (some ⟨b,off,none⟩) n c] w fun e w'=>e = .returned (.int .i64 (Lib.maxOf (zs.take n)))∧w'=w:=Any.slices_Max_int Tryz.lays113 b off n c zs w hn hz hbig hc
open Go.RowKit Go.Sort in
theorem Tryz.slices_Sort_int_none (p:Option Addr) (cap:Nat) (w:World) :
  Calls Tryz.prog 114 #[.slice p 0 cap] w fun e w'=>e = .returned (.tuple #[])∧w'=w:=Any.slices_Sort_int_none Tryz.lays189 p cap w
end Go.Proofs
namespace Go.Proofs.YteflhbfgpknabaaGreatDoor
open Go.Lib (hid)
open Go.RowKit Go.Shelf
abbrev vI (l:List Int):List Value:=l.map (Value.int .i64)
theorem compact_sorted (d:Array Int) (hs:∀ i j,i≤j→j<d.size→d[i]! ≤ d[j]!):∀ m,m≤d.size→(Lib.compactUpTo d m).Pairwise (· < ·)∧∀ x,x∈Lib.compactUpTo d m↔∃ j,j<m∧x=d[j]!
 | 0,_ => by
  refine ⟨by simp [Lib.compactUpTo],fun x=>?_⟩
  simp [Lib.compactUpTo]
 | m+1,hm=>by
  obtain ⟨h1,h2⟩:=compact_sorted d hs m (by omega)
  rw [Lib.compactUpTo_succ]
  by_cases hk:m=0∨d[m]! ≠ d[m-1]!
  ·have hkp:Lib.keeps d m=true:=by unfold Lib.keeps;exact decide_eq_true hk
   rw [if_pos hkp]
   refine ⟨?_,fun x=>?_⟩
   ·rw [List.pairwise_append]
    refine ⟨h1,List.pairwise_singleton _ _,fun a ha b hb=>?_⟩
    rw [List.mem_singleton] at hb
    subst hb
    obtain ⟨j,hj,rfl⟩:=(h2 a).1 ha
    rcases hk with hk | hk
    ·omega
    ·have a1:=hs j (m-1) (by omega) (by omega)
     have a2:=hs (m-1) m (by omega) (by omega)
     omega
   ·rw [List.mem_append,List.mem_singleton,h2 x]
    constructor
    ·rintro (⟨j,hj,rfl⟩ | rfl)
     ·exact ⟨j,by omega,rfl⟩
     ·exact ⟨m,by omega,rfl⟩
    ·rintro ⟨j,hj,rfl⟩
     by_cases e:j=m
     ·subst e;exact .inr rfl
     ·exact .inl ⟨j,by omega,rfl⟩
  ·have hm0:m≠0:=fun e=>hk (.inl e)
   have he:d[m]! = d[m-1]!:=Classical.byContradiction fun e=>hk (.inr e)
   have hkn:Lib.keeps d m=false:=Lib.keeps_neg (by omega) he
   rw [hkn]
   simp only [Bool.false_eq_true,if_false,List.append_nil]
   refine ⟨h1,fun x=>(h2 x).trans ⟨fun ⟨j,hj,e⟩=>⟨j,by omega,e⟩,fun ⟨j,hj,e⟩=>?_⟩⟩
   by_cases e2:j=m
   ·exact ⟨m-1,by omega,by rw [e,e2,he]⟩
   ·exact ⟨j,by omega,e⟩
theorem sort_compact (L:List Int):(Lib.compact (L.mergeSort fun x y=>decide (x≤y))).Pairwise (· < ·)∧∀ x,x∈Lib.compact (L.mergeSort fun x y=>decide (x≤y))↔x∈L:=by
 have hp:=List.pairwise_mergeSort (le:=fun x y:Int=>decide (x≤y)) (fun a b c h1 h2=>by simp only [decide_eq_true_eq] at *;omega) (fun a b=>by simp only [Bool.or_eq_true,decide_eq_true_eq];omega) L
 have hm:=fun x=>(List.mergeSort_perm L fun x y=>decide (x≤y)).mem_iff (a:=x)
 obtain ⟨S,hS⟩:∃ S,(L.mergeSort fun x y=>decide (x≤y))=S:=⟨_,rfl⟩
 rw [hS] at hp hm ⊢
 have hs:∀ i j,i≤j→j<S.toArray.size→S.toArray[i]! ≤ S.toArray[j]!:=fun i j hij hj=>by
  have hj':j<S.length:=by simpa using hj
  rw [getElem!_pos S.toArray i (by simp;omega),getElem!_pos S.toArray j hj]
  simp only [List.getElem_toArray]
  by_cases e:i=j
  ·subst e;exact Int.le_refl _
  ·have:=List.pairwise_iff_getElem.1 hp i j (by omega) hj' (by omega)
   simpa using this
 have h:=compact_sorted S.toArray hs S.length (by simp)
 refine ⟨h.1,fun x=>(h.2 x).trans (Iff.trans ?_ (hm x))⟩
 constructor
 ·rintro ⟨j,hj,rfl⟩
  rw [getElem!_pos S.toArray j (by simpa using hj)]
  simp
 ·intro hx
  obtain ⟨j,hj,rfl⟩:=List.getElem_of_mem hx
  exact ⟨j,hj,by rw [getElem!_pos S.toArray j (by simpa using hj)];simp⟩
theorem sortR_any (L:List Int) (hn:L.length≤1000000000) (base:Nat) (v:Value) (w:World) (h:w.ownsRow base 3 1 v L.length (vI L)) :
  Calls Tryz.prog 114 #[v] w fun e w'=>e = .returned (.tuple #[])∧w'.ownsRow base 3 1 v (L.mergeSort fun x y=>decide (x≤y)).length (vI (L.mergeSort fun x y=>decide (x≤y)))∧w.grownBy w' v.ownBlock:=by
 rcases h.2 with ⟨hv,h0⟩ | ⟨g,cap,cur,hv,hbg,hg,hrest⟩
 ·have hl0:L=[]:=List.length_eq_zero_iff.1 h0
  subst hl0
  have hcon:=Tryz.slices_Sort_int_none none 0 w
  rw [← hv] at hcon
  refine hcon.mono ?_
  rintro e w' ⟨rfl,rfl⟩
  exact ⟨rfl,by simpa using h,World.grownBy.refl _ _⟩
 ·have h':=h
  rw [hv] at h'
  have hH:=holdsE_row (enc:=Value.int .i64) h'
  have hcon:=Tryz.slices_Sort_int g 0 cap L w hH.1 hH.2.1 (by omega)
  rw [← hv] at hcon
  refine hcon.mono ?_
  rintro e w' ⟨rfl,n,os,rfl⟩
  refine ⟨rfl,?_,?_⟩
  ·have:=rowE_put (enc:=Value.int .i64) (n:=n) (os:=os) (k:=(L.mergeSort fun x y=>decide (x≤y)).length) (d':=(L.mergeSort fun x y=>decide (x≤y)).toArray) (by simp) (by simp) h'
   simp only [List.take_length] at this
   rw [hv]
   rw [List.length_mergeSort] at this ⊢
   exact this
  ·rw [hv];exact rowE_grown
theorem compR_any (L:List Int) (hn:L.length≤1000000000) (base:Nat) (v:Value) (w:World) (h:w.ownsRow base 3 1 v L.length (vI L)) :
  Calls Tryz.prog 115 #[v] w fun e w'=>∃ v',e = .returned v'∧w'.ownsRow base 3 1 v' (Lib.compact L).length (vI (Lib.compact L))∧w.grownBy w' v.ownBlock:=by
 rcases h.2 with ⟨hv,h0⟩ | ⟨g,cap,cur,hv,hbg,hg,hrest⟩
 ·have hl0:L=[]:=List.length_eq_zero_iff.1 h0
  subst hl0
  have hcon:=Tryz.slices_Compact_int_empty none 0 w
  rw [← hv] at hcon
  refine hcon.mono ?_
  rintro e w' ⟨rfl,rfl⟩
  exact ⟨_,rfl,by simpa [Lib.compact,Lib.compactUpTo] using h,World.grownBy.refl _ _⟩
 ·have h':=h
  rw [hv] at h'
  have hH:=holdsE_row (enc:=Value.int .i64) h'
  have hcon:=Tryz.slices_Compact_int g 0 cap L w hH.1 (by omega) hH.2.2
  rw [← hv] at hcon
  have hle:(Lib.compact L).length≤L.length:=by
   unfold Lib.compact Lib.compactUpTo
   rw [List.length_map]
   exact Nat.le_trans (List.length_filter_le _ _) (by simp)
  refine hcon.mono ?_
  rintro e w' ⟨rfl,q,rfl⟩
  refine ⟨_,rfl,?_,?_⟩
  ·have:=rowE_put (enc:=Value.int .i64) (n:=q) (os:=#[]) (k:=(Lib.compact L).length) (d':=(Lib.compact L++List.replicate (L.length-(Lib.compact L).length) 0).toArray) (by simp;omega) (by simp) h'
   rw [grow_none] at this
   simpa using this
  ·rw [hv]
   have hgw:=rowE_grown (enc:=Value.int .i64) (W:=w) (g:=g) (n:=q) (d:=(Lib.compact L++List.replicate (L.length-(Lib.compact L).length) 0).toArray) (os:=#[])
   rw [grow_none] at hgw
   exact hgw
theorem isIx_any (XB:Nat) (k i t:Int) (j:Int) (W:World) (hb:Blk W XB 74 #[.int .i64 k,.int .i64 i,.int .i64 t]) :
  Calls Tryz.prog 113 #[.int .i64 j,.pointer (some ⟨XB,0,none⟩)] W fun e w'=>e = .returned (.bool (decide (j=i)))∧∃ q,w'=W.drewN q:=by
 have x1:W.cell? ⟨XB,1,none⟩=some (.int .i64 i):=hb.cell 1
 go_enter Tryz.func113,Tryz.ntmps113
 go_wp2
 go_ret
 refine ⟨ret_b ?_,0,rfl⟩
 rfl
theorem delR_any (L:List Int) (hn:L.length≤1000000000) (base:Nat) (v:Value) (XB:Nat) (k i t:Int) (w:World) (hb:Blk w XB 74 #[.int .i64 k,.int .i64 i,.int .i64 t]) (h:w.ownsRow base 3 1 v L.length (vI L)) :
  Calls Tryz.prog 112 #[v,.func (.func 113) #[] #[.pointer (some ⟨XB,0,none⟩)]] w fun e w'=>∃ v',e = .returned v'∧w'.ownsRow base 3 1 v' (L.filter fun x=>!decide (x=i)).length (vI (L.filter fun x=>!decide (x=i)))∧w.grownBy w' v.ownBlock:=by
 rcases h.2 with ⟨hv,h0⟩ | ⟨g,cap,cur,hv,hbg,hg,hrest⟩
 ·have hp:L=[]:=List.length_eq_zero_iff.1 h0
  subst hp
  rw [hv] at h ⊢
  have HE:=hid (AnyE.slices_IndexFunc_empty (P:=Tryz.prog) (ρ:=Tryz.delInts_ren) { Tryz.delInts with } none 0 (.func (.func 113) #[] #[.pointer (some ⟨XB,0,none⟩)]) w)
  have HR:=hid h
  clear h hn hv hb
  go_enter Tryz.func112,Tryz.ntmps112
  go_wp2_with fail
  refine HE.out.mono ?_
  rintro e w' ⟨rfl,rfl⟩
  go_wp2
  go_ret
  exact ⟨_,rfl,HR.out,World.grownBy.refl _ _⟩
 ·have h':=h
  rw [hv] at h'
  have hH:=holdsE_row (enc:=Value.int .i64) h'
  have hne:some g≠some XB:=fun e=>by
   rw [← Option.some.inj e] at hb
   rw [show w.heap[g]?=_ from hb] at hg
   cases hg
  have eg:∀ args w,(callFunc 113 args).run Tryz.prog w = .ok (.enter 113 args) w:=enters_of Tryz.func113 (by kernel_rfl) rfl
  have hcon:=AnyE.slices_DeleteFunc Tryz.delInts (Value.int .i64) (fun _=>rfl) (fun x=>decide (x=i)) 113 #[.pointer (some ⟨XB,0,none⟩)] eg 0 (fun w=>by kernel_rfl) g 0 cap L.toArray w
   (fun W' x hb'=>isIx_any XB k i t x W' (hb.below hb')) (fun n os dk x _=>isIx_any XB k i t x _ (hb.grown (rowE_grown (enc:=Value.int .i64) (W:=w) (g:=g) (n:=n) (d:=dk) (os:=os)) hne)) hH.1 (by simp;omega) (by simpa using hH.2.2)
  change Calls Tryz.prog 112 _ _ _ at hcon
  rw [show L.toArray.size=L.length by simp,← hv] at hcon
  refine hcon.mono ?_
  rintro e w' ⟨rfl,q,rfl⟩
  obtain ⟨F,hF⟩:∃ F,L.filter (fun x=>!decide (x=i))=F:=⟨_,rfl⟩
  have hFl:F.length≤L.length:=by rw [← hF];exact List.length_filter_le _ _
  have hF2:(L.toArray.toList.filter fun x=>!decide (x=i))=F:=hF
  rw [hF2]
  refine ⟨_,rfl,?_,?_⟩
  ·have:=rowE_put (enc:=Value.int .i64) (n:=q) (os:=#[]) (k:=F.length) (d':=(F++List.replicate (L.length-F.length) (0:Int)).toArray) (by simp;omega) (by simp) h'
   rw [grow_none] at this
   simpa using this
  ·rw [hv]
   have hgw:=rowE_grown (enc:=Value.int .i64) (W:=w) (g:=g) (n:=q) (d:=(F++List.replicate (L.length-F.length) (0:Int)).toArray) (os:=#[])
   rw [grow_none] at hgw
   exact hgw
theorem cloneR_any (l:List Int) (hn:l.length≤1000000) (v:Value) (w:World) (hv:ARd w v 1 (l.map iC)) :
  Calls Tryz.prog 111 #[v] w fun e w'=>∃ v',e = .returned v'∧w'.ownsRow w.heap.size 3 1 v' l.length (vI l)∧Below w.heap.size w w':=by
 cases l with
 | nil =>
  obtain ⟨a,c,ev⟩:=hv.form
  have ev2:v = .slice a 0 c:=ev
  subst ev2
  cases a with
  | none =>
   refine (Tryz.slices_Clone_int_nil 0 c w).mono ?_
   rintro e w' ⟨rfl,rfl⟩
   exact ⟨_,rfl,World.ownsRow_nil _ _ _ _,Below.refl _ _⟩
  | some a =>
   refine (Tryz.slices_Clone_int_zero a c w).mono ?_
   rintro e w' ⟨v',rfl,h1,_,h2⟩
   exact ⟨v',rfl,h1,h2⟩
 | cons x l =>
  obtain ⟨b,o,c,ev,hlt,_⟩:=hv.intAt 0 (by simp)
  have h:=Tryz.slices_Clone_int b o (x :: l).length c (x :: l) w (Nat.le_refl _) (by omega) (fun j hj=>by
   obtain ⟨b',o',c',ev',_,hc⟩:=hv.intAt j hj
   rw [ev] at ev'
   obtain ⟨rfl,rfl⟩:=slice_inj ev'
   rw [getD_int hj]
   exact hc)
  rw [← ev,List.take_length] at h
  refine h.mono ?_
  rintro e w' ⟨v',rfl,h1,_,h2⟩
  exact ⟨v',rfl,h1,h2⟩
end Go.Proofs.YteflhbfgpknabaaGreatDoor
namespace Go.Proofs.YteflhbfgpknabaaGreatDoor
open Go.Lib (hid)
open Go.RowKit Go.Shelf
theorem int1_info:(Tryz.prog.info? 3).map (fun i=>(i.zero,i.size,i.bytes))=some (some (.int .i64 0),1,8):=by kernel_rfl
theorem chg_len (l:List Int) (F:List Ft) (al:Int):∀ k,(chgM l F al k).length≤l.length+k
 | 0=>Nat.le_refl _
 | k+1=>by
  have ih:=chg_len l F al k
  rw [chgM]
  split
  ·split
   ·rw [List.length_append,List.length_singleton];omega
   ·split
    ·exact Nat.le_trans (List.length_filter_le _ _) (by omega)
    ·omega
  ·omega
theorem chg_next {l:List Int} {F:List Ft} {al:Int} {k:Nat} (hk:k<F.length):chgM l F al (k+1)=if F[k].1=al then chgM l F al k++[F[k].2.1] else if F[k].1=al+1 then (chgM l F al k).filter fun i=>!decide (i=F[k].2.1) else chgM l F al k:=by
 rw [chgM,List.getElem?_eq_getElem hk]
theorem owns_le {W:World} {base size n r:Nat} {t:TypeId} {v:Value} {xs:List Value} (h:W.ownsRow base t size v n xs) (hv:v.ownBlock=some r):base≤r:=by
 obtain ⟨_,⟨rfl,_⟩ | ⟨g,cap,cur,rfl,e2,_⟩⟩:=h
 ·cases hv
 ·cases hv
  exact e2
def ChgR (l:List Int) (F:List Ft) (al:Int) (w:World) (e:Ending) (w':World):Prop:=∃ (v':Value) (m:List Int),e = .returned v'∧w'.ownsRow w.heap.size 3 1 v' m.length (vI m)∧m.Pairwise (· < ·)∧(∀ x,x∈m↔x∈chgM l F al F.length)∧Below w.heap.size w w'
theorem changed_any (l:List Int) (v:Value) (F:List Ft) (fv:Value) (al:Int) (ha:al=3∨al=5) (hl:l.length≤1000) (hF:F.length≤10) (w:World) (hv:ARd w v 1 (l.map iC)) (hfv:ARd w fv 3 (F.map ftC)) :
  Calls Tryz.prog 76 #[v,fv,.int .i64 al] w (ChgR l F al w):=by
 obtain ⟨i0,hi0,hz0,hz1,hz2⟩:=info_parts int1_info
 obtain ⟨af,cf,ev⟩:=hfv.ftForm
 subst ev
 have HFV:=hid hfv
 have HCL:=hid (cloneR_any l (by omega) v w hv)
 have ea:IntKind.i64.wrap (al+1)=al+1:=IntWalk.i64_in _ (by omega)
 clear hv hfv
 go_enter Tryz.func76,Tryz.ntmps76
 go_wp2_with fail
 refine HCL.out.mono ?_
 rintro e W1 ⟨v1,rfl,hrow,hb1⟩
 have HR0:=hid (show W1.ownsRow w.heap.size 3 1 v1 (chgM l F al 0).length (vI (chgM l F al 0)) from hrow)
 have HB0:=hid hb1
 clear hrow hb1 HCL
 go_wp2
 go_loopw [7,14] (fun u x wr=>∃ k:Nat,k≤F.length∧x = .int .i64 k∧RowKit.Hid (wr.ownsRow w.heap.size 3 1 u (chgM l F al k).length (vI (chgM l F al k)))∧RowKit.Hid (Below w.heap.size w wr)) (fun _ x _=>F.length-(intOf x).toNat)
 case atStart=>exact ⟨0,Nat.zero_le _,rfl,HR0,HB0⟩
 clear HR0 HB0
 obtain ⟨k,hk,rfl,hR,hB⟩:=hrel
 by_cases hkl:k<F.length
 ·have hk2:(k:Int)<(F.length:Int):=by omega
  obtain ⟨b,o,c',ev,hbl,q0,q1,q2⟩:=(HFV.out.later hB.out).ftAt k hkl
  cases ev
  have HN:=hid (chg_next (l:=l) (al:=al) hkl)
  have hML:=chg_len l F al k
  obtain ⟨x,hx⟩:∃ x,F[k]=x:=⟨_,rfl⟩
  rw [hx] at q0 q1 q2 HN
  obtain ⟨x1,x2,x3⟩:=x
  simp only at q0 q1 q2 HN
  obtain ⟨M,hM⟩:∃ M,chgM l F al k=M:=⟨_,rfl⟩
  rw [hM] at hR HN hML
  clear hx hM
  go_upto_region 5 with fail
  have hb4:Below wr.heap.size wr (wr.alloc (.cells #[.int .i64 x1,.int .i64 x2,.int .i64 x3] 74)):=(Below.refl _ wr).alloc (Nat.le_refl _) _
  have HR4:=hid (row_later hR.out hb4)
  have HB4:=hid (below_step hB.out hb4)
  have hk4:=Blk.new wr 74 #[.int .i64 x1,.int .i64 x2,.int .i64 x3]
  obtain ⟨X,hXe⟩:∃ X,wr.heap.size=X:=⟨_,rfl⟩
  rw [hXe] at hk4 ⊢
  generalize wr.alloc (.cells #[.int .i64 x1,.int .i64 x2,.int .i64 x3] 74)=W4 at *
  have K4:=hid hk4
  have y0:W4.cell? ⟨X,0,none⟩=some (.int .i64 x1):=hk4.cell 0
  have y1:W4.cell? ⟨X,1,none⟩=some (.int .i64 x2):=hk4.cell 1
  clear hb4 hk4 hXe hR hB q0 q1 q2
  have hsz:=HB4.out.size
  by_cases h1:x1=al
  ·have d1:(x1==al)=true:=by rw [h1];exact beq_self_eq_true _
   have HN2:=hid (HN.out.trans (if_pos h1))
   clear h1 HN
   go_wp2_with (at_builtin;refine wpList_append_lies _ rfl _ _ 30 rfl w.heap.size 3 i0 _ 1 8 Tryz.underlying30 hi0 hz0 hz1 hz2 rfl (by omega) _ _ _ rfl (HR4.out.alloc _) ⟨W4.heap.size,0,none⟩ 1 1 [.int .i64 x2] rfl rfl (World.news_of_block (cs:=#[.int .i64 x2]) (t:=3) (fr:=(0,0)) (heap_alloc_new W4 _)) (by simp [Value.oneCell']) (by omega) (by unfold maxLen;omega) (by omega) (by simp;omega) (W4.heap.size+1) (by simp) ?_;intro gg cap w5 hown3 hgrow hat3 hlt3)
   have HB5:=hid (push_low HB4.out HR4.out hgrow)
   have HR5:=hid (show w5.ownsRow w.heap.size 3 1 (.slice (some ⟨gg,0,none⟩) (M.length+1) cap) (chgM l F al (k+1)).length (vI (chgM l F al (k+1))) from by
    rw [HN2.out,List.length_append,List.length_singleton]
    simpa [vI] using hown3)
   clear hown3 hgrow hat3 hlt3
   go_wp2
   go_roundw
   case rel=>exact ⟨k+1,by omega,by go_num,HR5,HB5⟩
   case measure=>simp [intOf];omega
  have d1:(x1==al)=false:=by rw [beq_eq_false_iff_ne];exact h1
  by_cases h2:x1=al+1
  ·have d2:(x1==al+1)=true:=by rw [h2];exact beq_self_eq_true _
   have HN2:=hid (HN.out.trans ((if_neg h1).trans (if_pos h2)))
   have HDL:=hid (delR_any M (by omega) w.heap.size u7 X x1 x2 x3 W4 K4.out HR4.out)
   clear h1 h2 HN
   go_wp2_with fail
   refine HDL.out.mono ?_
   rintro e W5 ⟨v5,rfl,hr5,hg5⟩
   have HB5:=hid (HB4.out.grown hg5 HB4.out.size (fun r e=>owns_le HR4.out e))
   have HR5:=hid (show W5.ownsRow w.heap.size 3 1 v5 (chgM l F al (k+1)).length (vI (chgM l F al (k+1))) from by rw [HN2.out];exact hr5)
   clear hr5 hg5 HDL
   go_wp2
   go_roundw
   case rel=>exact ⟨k+1,by omega,by go_num,HR5,HB5⟩
   case measure=>simp [intOf];omega
  ·have d2:(x1==al+1)=false:=by rw [beq_eq_false_iff_ne];exact h2
   have HR5:=hid (show W4.ownsRow w.heap.size 3 1 u7 (chgM l F al (k+1)).length (vI (chgM l F al (k+1))) from by rw [HN.out.trans ((if_neg h1).trans (if_neg h2))];exact HR4.out)
   clear h1 h2 HN
   go_wp2
   go_roundw
   case rel=>exact ⟨k+1,by omega,by go_num,HR5,HB4⟩
   case measure=>simp [intOf];omega
 ·have hk2:¬ (k:Int)<(F.length:Int):=by omega
  have hke:k=F.length:=by omega
  rw [hke] at hR
  have hML:=chg_len l F al F.length
  have HSC:=hid (sort_compact (chgM l F al F.length))
  obtain ⟨M,hM⟩:∃ M,chgM l F al F.length=M:=⟨_,rfl⟩
  have HSO:=hid (sortR_any (chgM l F al F.length) (by omega) w.heap.size _ _ hR.out)
  clear hke
  go_wp2_with fail
  refine HSO.out.mono ?_
  rintro e W5 ⟨rfl,hr5,hg5⟩
  have HB5:=hid (hB.out.grown hg5 hB.out.size (fun r e=>owns_le hR.out e))
  have HCO:=hid (compR_any _ (by rw [List.length_mergeSort];omega) w.heap.size _ _ hr5)
  have HR5:=hid hr5
  clear hr5 hg5 HSO hB hR
  go_wp2_with fail
  refine HCO.out.mono ?_
  rintro e W6 ⟨v6,rfl,hr6,hg6⟩
  have HB6:=hid (HB5.out.grown hg6 HB5.out.size (fun r e=>owns_le HR5.out e))
  have HR6:=hid hr6
  clear hr6 hg6 HCO
  go_wp2
  go_ret
  exact ⟨v6,_,rfl,HR6.out,HSC.out.1,HSC.out.2,HB6.out⟩
end Go.Proofs.YteflhbfgpknabaaGreatDoor
namespace Go.Proofs.YteflhbfgpknabaaGreatDoor
open Go.Lib (hid)
open Go.RowKit Go.Shelf
def drwB (l:List Int) (F:List Ft) (al:Int) (i:Int):Bool:=(decide (i∈l)||decide (((al,i,0):Ft)∈F))&&!(decide (((al+1,i,0):Ft)∈F))
def drwL (l:List Int) (F:List Ft) (al:Int) (n:Nat):List Int:=((List.range n).map fun (i:Nat)=>(i:Int)).filter (drwB l F al)
theorem drwL_next (l:List Int) (F:List Ft) (al:Int) (n:Nat):drwL l F al (n+1)=drwL l F al n++(if drwB l F al n then [(n:Int)] else []):=by
 unfold drwL
 rw [List.range_succ,List.map_append,List.filter_append,List.map_singleton]
 congr 1
 cases h:drwB l F al n with
 | true=>rw [List.filter_cons_of_pos (by simpa using h),List.filter_nil];rfl
 | false=>rw [List.filter_cons_of_neg (by simp [h]),List.filter_nil];rfl
theorem drwL_len (l:List Int) (F:List Ft) (al:Int) (n:Nat):(drwL l F al n).length≤n:=by
 unfold drwL
 refine Nat.le_trans (List.length_filter_le _ _) ?_
 rw [List.length_map,List.length_range]
 exact Nat.le_refl _
def DrwR (m:List Int) (w:World) (e:Ending) (w':World):Prop:=∃ v',e = .returned v'∧w'.ownsRow w.heap.size 3 1 v' m.length (vI m)∧Below w.heap.size w w'
theorem drawn30_any (l:List Int) (v:Value) (n:Nat) (al:Int) (ha:al=3∨al=5) (F:List Ft) (fv:Value) (hl:l.length≤1000) (hn:n≤1000) (hF:F.length≤1000000) (w:World) (hv:ARd w v 1 (l.map iC)) (hfv:ARd w fv 3 (F.map ftC)) :
  Calls Tryz.prog 81 #[v,.int .i64 n,.int .i64 al,fv] w (DrwR (drwL l F al n) w):=by
 obtain ⟨i0,hi0,hz0,hz1,hz2⟩:=info_parts int1_info
 obtain ⟨af,cf,ev⟩:=hfv.ftForm
 subst ev
 obtain ⟨av,cv,ev⟩:=hv.intForm
 subst ev
 have HV:=hid hv
 have HIN:=hid (fun (W:World) (hb:Below w.heap.size w W) (a b c:Int)=>in30_any F (.slice af F.length cf) a b c W hF (hfv.later hb))
 have HR0:=hid (show w.ownsRow w.heap.size 3 1 (.slice none 0 0) (drwL l F al 0).length (vI (drwL l F al 0)) from World.ownsRow_nil _ _ _ _)
 have HB0:=hid (Below.refl w.heap.size w)
 have ea:IntKind.i64.wrap (al+1)=al+1:=IntWalk.i64_in _ (by omega)
 clear hv hfv
 go_enter Tryz.func81,Tryz.ntmps81
 go_wp2
 go_loopw [9,10] (fun u x wr=>∃ i:Nat,i≤n∧x = .int .i64 i∧RowKit.Hid (wr.ownsRow w.heap.size 3 1 u (drwL l F al i).length (vI (drwL l F al i)))∧RowKit.Hid (Below w.heap.size w wr)) (fun _ x _=>n-(intOf x).toNat)
 case atStart=>exact ⟨0,Nat.zero_le _,rfl,HR0,HB0⟩
 clear HR0 HB0
 obtain ⟨i,hi,rfl,hR,hB⟩:=hrel
 by_cases hin:i<n
 ·have hi2:(i:Int)<(n:Int):=by omega
  have hML:=drwL_len l F al i
  have HNX:=hid (drwL_next l F al i)
  obtain ⟨M,hM⟩:∃ M,drwL l F al i=M:=⟨_,rfl⟩
  rw [hM] at hR HNX hML
  clear hM
  have HX:=hid (HV.out.later hB.out)
  go_wp2
  go_loopw [11,12] (fun q y wr2=>∃ k:Nat,k≤l.length∧q = .bool (decide ((i:Int)∈l.take k))∧y = .int .i64 k∧wr2=wr) (fun _ y _=>l.length-(intOf y).toNat)
  case atStart=>exact ⟨0,Nat.zero_le _,by simp,rfl,rfl⟩
  obtain ⟨k,hk,rfl,rfl,rfl⟩:=hrel
  by_cases hkl:k<l.length
  ·have hk2:(k:Int)<(l.length:Int):=by omega
   obtain ⟨b,o,c',ev,_,q0⟩:=HX.out.intAt k hkl
   cases ev
   have HT:=hid (show decide ((i:Int)∈l.take (k+1))=(decide ((i:Int)∈l.take k)||(l[k]==(i:Int))) from by
    rw [List.take_succ_eq_append_getElem hkl,Bool.eq_iff_iff,Bool.or_eq_true,decide_eq_true_iff,decide_eq_true_iff,beq_iff_eq,List.mem_append,List.mem_singleton,eq_comm (a:=(i:Int))])
   obtain ⟨z,hz⟩:∃ z,l[k]=z:=⟨_,rfl⟩
   rw [hz] at q0 HT
   clear hz
   obtain ⟨q,hq⟩:∃ q,decide ((i:Int)∈l.take k)=q:=⟨_,rfl⟩
   rw [hq] at HT ⊢
   clear hq
   cases q with
   | true =>
    go_wp2
    go_roundw
    case rel=>exact ⟨k+1,by omega,by rw [HT.out];rfl,by go_num,trivial⟩
    case measure=>simp [intOf];omega
   | false =>
    go_wp2
    go_roundw
    case rel=>exact ⟨k+1,by omega,by rw [HT.out];rfl,by go_num,trivial⟩
    case measure=>simp [intOf];omega
  have hk2:¬ (k:Int)<(l.length:Int):=by omega
  have hke:k=l.length:=by omega
  have HK:=hid (show decide ((i:Int)∈l.take k)=decide ((i:Int)∈l) by rw [hke,List.take_length])
  rw [HK.out]
  clear HK hke
  have HR5:=hid hR.out
  have HB5:=hid hB.out
  clear hR hB HX
  cases hq:decide ((i:Int)∈l) with
  | true =>
   go_wp2_with fail
   refine (HIN.out _ HB5.out (al+1) i 0).mono ?_
   rintro e W6 ⟨rfl,hb6⟩
   have HR6:=hid (row_later HR5.out hb6)
   have HB6:=hid (below_step HB5.out hb6)
   clear hb6 HR5 HB5
   have hsz:=HB6.out.size
   cases hr2:decide (((al+1,(i:Int),0):Ft)∈F) with
   | true =>
    have HN2:=hid (show drwL l F al (i+1)=M from by rw [HNX.out,show drwB l F al i=false from by unfold drwB;rw [hr2,Bool.not_true,Bool.and_false]];simp)
    clear hr2 HNX
    go_wp2
    go_roundw
    case rel=>exact ⟨i+1,by omega,by go_num,by rw [HN2.out];exact HR6,HB6⟩
    case measure=>simp [intOf];omega
   | false =>
    have HN2:=hid (show drwL l F al (i+1)=M++[(i:Int)] from by rw [HNX.out,show drwB l F al i=true from by unfold drwB;rw [hr2,hq,Bool.true_or,Bool.not_false,Bool.true_and];try rfl];simp)
    clear hr2 HNX
    go_wp2_with (at_builtin;refine wpList_append_lies _ rfl _ _ 30 rfl w.heap.size 3 i0 _ 1 8 Tryz.underlying30 hi0 hz0 hz1 hz2 rfl (by omega) _ _ _ rfl (HR6.out.alloc _) ⟨W6.heap.size,0,none⟩ 1 1 [.int .i64 (i:Int)] rfl rfl (World.news_of_block (cs:=#[.int .i64 (i:Int)]) (t:=3) (fr:=(0,0)) (heap_alloc_new W6 _)) (by simp [Value.oneCell']) (by omega) (by unfold maxLen;omega) (by omega) (by simp;omega) (W6.heap.size+1) (by simp) ?_;intro gg cap w7 hown3 hgrow hat3 hlt3)
    have HB7:=hid (push_low HB6.out HR6.out hgrow)
    have HR7:=hid (show w7.ownsRow w.heap.size 3 1 (.slice (some ⟨gg,0,none⟩) (M.length+1) cap) (drwL l F al (i+1)).length (vI (drwL l F al (i+1))) from by
     rw [HN2.out,List.length_append,List.length_singleton]
     simpa [vI] using hown3)
    clear hown3 hgrow hat3 hlt3
    go_wp2
    go_roundw
    case rel=>exact ⟨i+1,by omega,by go_num,HR7,HB7⟩
    case measure=>simp [intOf];omega
  | false =>
   go_wp2_with fail
   refine (HIN.out _ HB5.out al i 0).mono ?_
   rintro e W4 ⟨rfl,hb4⟩
   replace HR5:=hid (row_later HR5.out hb4)
   replace HB5:=hid (below_step HB5.out hb4)
   clear hb4
   cases hr1:decide (((al,(i:Int),0):Ft)∈F) with
   | true =>
    go_wp2_with fail
    refine (HIN.out _ HB5.out (al+1) i 0).mono ?_
    rintro e W6 ⟨rfl,hb6⟩
    have HR6:=hid (row_later HR5.out hb6)
    have HB6:=hid (below_step HB5.out hb6)
    clear hb6 HR5 HB5
    have hsz:=HB6.out.size
    cases hr2:decide (((al+1,(i:Int),0):Ft)∈F) with
    | true =>
     have HN2:=hid (show drwL l F al (i+1)=M from by rw [HNX.out,show drwB l F al i=false from by unfold drwB;rw [hr2,Bool.not_true,Bool.and_false]];simp)
     clear hr2 HNX
     go_wp2
     go_roundw
     case rel=>exact ⟨i+1,by omega,by go_num,by rw [HN2.out];exact HR6,HB6⟩
     case measure=>simp [intOf];omega
    | false =>
     have HN2:=hid (show drwL l F al (i+1)=M++[(i:Int)] from by rw [HNX.out,show drwB l F al i=true from by unfold drwB;rw [hr2,hq,hr1,Bool.false_or,Bool.not_false,Bool.true_and];try rfl];simp)
     clear hr2 HNX
     go_wp2_with (at_builtin;refine wpList_append_lies _ rfl _ _ 30 rfl w.heap.size 3 i0 _ 1 8 Tryz.underlying30 hi0 hz0 hz1 hz2 rfl (by omega) _ _ _ rfl (HR6.out.alloc _) ⟨W6.heap.size,0,none⟩ 1 1 [.int .i64 (i:Int)] rfl rfl (World.news_of_block (cs:=#[.int .i64 (i:Int)]) (t:=3) (fr:=(0,0)) (heap_alloc_new W6 _)) (by simp [Value.oneCell']) (by omega) (by unfold maxLen;omega) (by omega) (by simp;omega) (W6.heap.size+1) (by simp) ?_;intro gg cap w7 hown3 hgrow hat3 hlt3)
     have HB7:=hid (push_low HB6.out HR6.out hgrow)
     have HR7:=hid (show w7.ownsRow w.heap.size 3 1 (.slice (some ⟨gg,0,none⟩) (M.length+1) cap) (drwL l F al (i+1)).length (vI (drwL l F al (i+1))) from by
      rw [HN2.out,List.length_append,List.length_singleton]
      simpa [vI] using hown3)
     clear hown3 hgrow hat3 hlt3
     go_wp2
     go_roundw
     case rel=>exact ⟨i+1,by omega,by go_num,HR7,HB7⟩
     case measure=>simp [intOf];omega
   | false =>
    have HN2:=hid (show drwL l F al (i+1)=M from by rw [HNX.out,show drwB l F al i=false from by unfold drwB;rw [hq,hr1];rfl];simp)
    clear hq hr1 HNX
    go_wp2
    go_roundw
    case rel=>exact ⟨i+1,by omega,by go_num,by rw [HN2.out];exact HR5,HB5⟩
    case measure=>simp [intOf];omega
 ·have hi2:¬ (i:Int)<(n:Int):=by omega
  have hie:i=n:=by omega
  rw [hie] at hR
  clear hie
  go_wp2
  go_ret
  exact ⟨_,rfl,hR.out,hB.out⟩
end Go.Proofs.YteflhbfgpknabaaGreatDoor
namespace Go.Proofs.YteflhbfgpknabaaGreatDoor
open Go.Lib (hid)
theorem drw_on {_S:Sp} {F:List Ft} {H:Hn} {k:Int} {n:Nat} {l:List Int} (hk:(k=2∧l=H.ss)∨(k=3∧l=H.cs)):drwL l F (2 * k-1) n=onL (onF F (onH H)) k n:=by
 unfold drwL onL
 refine List.filter_congr fun i _=>?_
 rw [Bool.eq_iff_iff]
 rcases hk with ⟨rfl,rfl⟩ | ⟨rfl,rfl⟩
 ·rw [decide_eq_true_iff,onF_stop,onH_stop]
  unfold drwB
  rw [show (2 * 2-1:Int)=3 from rfl,show (3+1:Int)=4 from rfl]
  by_cases a:((4,i,0):Ft)∈F <;> by_cases b:((3,i,0):Ft)∈F <;> by_cases c:i∈H.ss <;> simp [a,b,c]
 ·rw [decide_eq_true_iff,onF_cou,onH_cou]
  unfold drwB
  rw [show (2 * 3-1:Int)=5 from rfl,show (5+1:Int)=6 from rfl]
  by_cases a:((6,i,0):Ft)∈F <;> by_cases b:((5,i,0):Ft)∈F <;> by_cases c:i∈H.cs <;> simp [a,b,c]
end Go.Proofs.YteflhbfgpknabaaGreatDoor
