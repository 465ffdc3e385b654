/-
  A part of the proof: extra.
-/
import Derived.Test.YteflhbfgpknabaaGreatDoorCards
import Derived.Test.YteflhbfgpknabaaGreatDoorTie
import Derived.Test.YteflhbfgpknabaaGreatDoorL01
import Derived.WalkKit
import Derived.ProofKit
import Derived.OpenShut
import Derived.Deep.DeepHandedRow
import Derived.Deep.DeepWitnessRowRef
import Derived.Lib.LaidTab
import Derived.LaidMore
import Derived.ShutString
import Derived.Stop.LaidErr
import Derived.MakeChecks
import Derived.Test.YteflhbfgpknabaaGreatDoorL08
import Derived.Test.YteflhbfgpknabaaGreatDoorL20
import Derived.Test.YteflhbfgpknabaaGreatDoorL12
import Derived.Test.YteflhbfgpknabaaGreatDoorL21
set_option maxRecDepth 100000
set_option maxHeartbeats 3200000
namespace Go.Proofs.YteflhbfgpknabaaGreatDoor
open Go.Lib (hid)
open Go.ChangeShapes Go.WideShapes Go.ChangeAt Go.ChangeMaps Go.RowKit
theorem u8_bounds {a:Int} (h:(Lit.int .u8 a).wf=true):0≤a∧a<256:=by
 have h2:IntKind.u8.min≤a∧a≤IntKind.u8.max:=by simpa only [Lit.wf,Bool.and_eq_true,decide_eq_true_eq] using h
 have e1:IntKind.u8.min=0:=rfl
 have e2:IntKind.u8.max=255:=rfl
 omega
end Go.Proofs.YteflhbfgpknabaaGreatDoor
namespace Go.Proofs.YteflhbfgpknabaaGreatDoor
open Go.Lib (hid)
open Go.RowKit
theorem hold2 {W0 W w':World} {a0:Addr} {u0:Value} {a1:Addr} {u1:Value} (h:Below W0.heap.size W0 W∧W.cell? a0=some u0∧W.cell? a1=some u1) (hb:Below W.heap.size W w'):Below W0.heap.size W0 w'∧w'.cell? a0=some u0∧w'.cell? a1=some u1:=by
 obtain ⟨hB,h0,h1⟩:=h
 exact ⟨below_step hB hb,(hb.cell (cell_size h0)).trans h0,(hb.cell (cell_size h1)).trans h1⟩
theorem hold5 {W0 W w':World} {a0:Addr} {u0:Value} {a1:Addr} {u1:Value} {a2:Addr} {u2:Value} {a3:Addr} {u3:Value} {a4:Addr} {u4:Value} (h:Below W0.heap.size W0 W∧W.cell? a0=some u0∧W.cell? a1=some u1∧W.cell? a2=some u2∧W.cell? a3=some u3∧W.cell? a4=some u4) (hb:Below W.heap.size W w'):Below W0.heap.size W0 w'∧w'.cell? a0=some u0∧w'.cell? a1=some u1∧w'.cell? a2=some u2∧w'.cell? a3=some u3∧w'.cell? a4=some u4:=by
 obtain ⟨hB,h0,h1,h2,h3,h4⟩:=h
 exact ⟨below_step hB hb,(hb.cell (cell_size h0)).trans h0,(hb.cell (cell_size h1)).trans h1,(hb.cell (cell_size h2)).trans h2,(hb.cell (cell_size h3)).trans h3,(hb.cell (cell_size h4)).trans h4⟩
end Go.Proofs.YteflhbfgpknabaaGreatDoor
namespace Go.Proofs.YteflhbfgpknabaaGreatDoor
open Go.Lib (hid)
def fltE (S:Sp) (F:List Ft):Int :=
 if (checkP S).2≠0 then (checkP S).2 else if 10<F.length then 3
 else if ¬ (F.Pairwise fLt∧∀ x∈F,ftOk S x=true) then 2 else if conB F=true then 8 else 0
theorem fltE_ok {S:Sp} {F:List Ft}:fltE S F=0↔(checkP S).2=0∧F.length≤10∧FtsOk S F:=by
 unfold fltE
 split
 ·rename_i h
  exact ⟨fun q=>absurd q h,fun q=>absurd q.1 h⟩
 ·rename_i h
  split
  ·exact ⟨fun q=>(by cases q),fun q=>(by omega)⟩
  ·split
   ·rename_i _ h3
    exact ⟨fun q=>(by cases q),fun q=>absurd ⟨q.2.2.asc,q.2.2.ok⟩ h3⟩
   ·rename_i h2 h3
    have h4:F.Pairwise fLt∧∀ x∈F,ftOk S x=true:=Classical.byContradiction h3
    split
    ·rename_i h5
     refine ⟨fun q=>(by cases q),fun q=>?_⟩
     rw [conB_iff.2 q.2.2.con] at h5
     cases h5
    ·rename_i h5
     exact ⟨fun _=>⟨by omega,by omega,h4.1,h4.2,conB_iff.1 (by simpa using h5)⟩,fun _=>rfl⟩
theorem trlE_of {S:Sp} {L:List Tl} (hc:(checkP S).2=0) (hl:L.length≤20) (h:∀ t∈L,hndE S t.h=0∧t.l.Pairwise ppLt∧∀ p∈t.l,p∈allFrom 0 S.rs):trlE S L=0:=by
 unfold trlE
 rw [if_neg (by omega),if_neg (by omega)]
 refine firstErr_zero fun i hi=>?_
 obtain ⟨h1,h2⟩:=h _ (List.getElem_mem hi)
 unfold tlF
 rw [List.getElem?_eq_getElem hi]
 simp only
 rw [if_neg (by omega),if_pos (pipB_iff.2 h2)]
theorem bestI_at (v:Nat→Nat):∀ n,(bestI v n).1≤n∧(bestI v n).2=v (bestI v n).1
 | 0=>⟨Nat.le_refl _,rfl⟩
 | n+1=>by
  have:=bestI_at v n
  unfold bestI
  split
  ·exact ⟨Nat.le_refl _,rfl⟩
  ·exact ⟨by omega,this.2⟩
theorem lea_found {S:Sp} {B:(Th→Int)→Pp→Bool} {T:List Tr} {most:Nat} {M:List (List Ft)} {e:Int} (h:LeaP S B T most M e) {F:List Ft} (hF:FtsOk S F) (hl:F.length≤most) (hE:Exps S B F T) :
  (e=5∧M=[])∨(e=0∧∃ many,many≤F.length∧many≤most∧SetsP S B T many M∧M≠[]∧M.length≤200∧(F∈M∨many<F.length)∧(∀ g,FtsOk S g→g.length<many→¬ Exps S B g T)):=by
 rcases h with ⟨k,hk,hmin,N,hN,hne,h⟩ | ⟨hno,_,_⟩
 ·rcases h with ⟨a,rfl,rfl⟩ | ⟨_,rfl,rfl⟩
  ·have hkF:k≤F.length:=by
    rcases Nat.lt_or_ge F.length k with q | q
    ·exact absurd hE (hmin F hF q)
    ·exact q
   refine .inr ⟨rfl,k,hkF,hk,hN,hne,a,?_,hmin⟩
   rcases Nat.lt_or_ge k F.length with q | q
   ·exact .inr q
   ·exact .inl ((hN.2 F).2 ⟨hF,by omega,hE⟩)
  ·exact .inl ⟨rfl,rfl⟩
 ·exact absurd hE (hno F hF hl)
theorem exps_app {S:Sp} {B:(Th→Int)→Pp→Bool} {F:List Ft} {T U:List Tr}:Exps S B F (T++U)↔Exps S B F T∧Exps S B F U:=by
 unfold Exps
 constructor
 ·exact fun h=>⟨fun t ht=>h t (List.mem_append_left _ ht),fun t ht=>h t (List.mem_append_right _ ht)⟩
 ·rintro ⟨h1,h2⟩ t ht
  rcases List.mem_append.1 ht with h | h
  ·exact h1 t h
  ·exact h2 t h
theorem lea_more {S:Sp} {B:(Th→Int)→Pp→Bool} {T U:List Tr} {most:Nat} {M N:List (List Ft)} (hM:LeaP S B T most M 0) (hN:LeaP S B (T++U) most N 0):∃ m n,m≤n∧SetsP S B T m M∧SetsP S B (T++U) n N∧M≠[]∧N≠[]∧(m=n→∀ F∈N,F∈M):=by
 obtain ⟨m,_,hmin,hMs,hMn,_⟩:=leaP_ok hM
 obtain ⟨n,_,_,hNs,hNn,_⟩:=leaP_ok hN
 refine ⟨m,n,?_,hMs,hNs,hMn,hNn,fun e F hF=>?_⟩
 ·obtain ⟨F,N',rfl⟩:=List.exists_cons_of_ne_nil hNn
  obtain ⟨h1,h2,h3⟩:=(hNs.2 F).1 (by simp)
  rcases Nat.lt_or_ge n m with q | q
  ·exact absurd (exps_app.1 h3).1 (hmin F h1 (by omega))
  ·exact q
 ·subst e
  obtain ⟨h1,h2,h3⟩:=(hNs.2 F).1 hF
  exact (hMs.2 F).2 ⟨h1,h2,(exps_app.1 h3).1⟩
theorem lea_next {S:Sp} {B:(Th→Int)→Pp→Bool} {T:List Tr} {most:Nat} {M N:List (List Ft)} {e:Int} (hM:LeaP S B T most M 0) {G:List Ft} (hG:G∈M) {f:Th→Int} (hN:LeaP S B (T++[(f,hearL S B G f)]) most N e) :
  e=0∧N.length≤leftN S B M f∧N≠[]∧∃ m,SetsP S B T m M∧∀ F∈N,F.length=m:=by
 obtain ⟨m,hm,hmin,hMs,hMn,hMl⟩:=leaP_ok hM
 have hmem:∀ F,F∈(M.filter fun F=>decide (hearL S B G f=hearL S B F f))↔FtsOk S F∧F.length=m∧Exps S B F (T++[(f,hearL S B G f)]):=fun F=>by
  rw [List.mem_filter,hMs.2 F,decide_eq_true_iff,exps_app]
  constructor
  ·rintro ⟨⟨a,b,c⟩,d⟩
   refine ⟨a,b,c,fun t ht=>?_⟩
   rw [List.mem_singleton] at ht
   subst ht
   exact d.symm
  ·rintro ⟨a,b,c,d⟩
   exact ⟨⟨a,b,c⟩,(d (f,hearL S B G f) (List.mem_singleton.2 rfl)).symm⟩
 have hS:SetsP S B (T++[(f,hearL S B G f)]) m (M.filter fun F=>decide (hearL S B G f=hearL S B F f)):=⟨hMs.1.filter _,hmem⟩
 obtain ⟨g1,g2,g3⟩:=(hMs.2 G).1 hG
 have hGN:G∈M.filter fun F=>decide (hearL S B G f=hearL S B F f):=List.mem_filter.2 ⟨hG,decide_eq_true rfl⟩
 have hlen:(M.filter fun F=>decide (hearL S B G f=hearL S B F f)).length≤leftN S B M f:=leftN_ge (f:=f) hG
 have hlen2:=List.length_filter_le (fun F=>decide (hearL S B G f=hearL S B F f)) M
 have hP:LeaP S B (T++[(f,hearL S B G f)]) most (M.filter fun F=>decide (hearL S B G f=hearL S B F f)) 0 :=
  .inl ⟨m,hm,fun g hg hl hx=>hmin g hg hl (exps_app.1 hx).1,_,hS,fun q=>(by rw [q] at hGN;cases hGN),.inl ⟨by omega,rfl,rfl⟩⟩
 obtain ⟨rfl,rfl⟩:=hN.one hP
 exact ⟨rfl,hlen,fun q=>(by rw [q] at hGN;cases hGN),m,hMs,fun F hF=>hS.size hF⟩
open Go.RowKit Go.Shelf
theorem ft_pipe {S:Sp} {k a t:Int} (h:k=1∨k=2):ftOk S (k,a,t)=decide (((a,t):Pp)∈allFrom 0 S.rs):=by unfold ftOk;rw [if_pos h]
theorem ft_stop {S:Sp} {k a t:Int} (h:k=3∨k=4):ftOk S (k,a,t)=(decide (0≤a)&&(decide (a<(S.ss.length:Int))&&decide (t=0))):=by
 unfold ftOk
 rw [if_neg (by simp only;omega),if_pos h,Bool.decide_and,Bool.decide_and]
theorem ft_cou {S:Sp} {k a t:Int} (h:k=5∨k=6):ftOk S (k,a,t)=(decide (0≤a)&&(decide (a<(S.cs.length:Int))&&decide (t=0))):=by
 unfold ftOk
 rw [if_neg (by simp only;omega),if_neg (by simp only;omega),if_pos h,Bool.decide_and,Bool.decide_and]
theorem ft_none {S:Sp} {k a t:Int} (h:k<1∨6<k):ftOk S (k,a,t)=false:=by
 unfold ftOk
 rw [if_neg (by simp only;omega),if_neg (by simp only;omega),if_neg (by simp only;omega)]
theorem is30_any (v1 v2 v3 v4:Value) (S:Sp) (hc:(checkP S).2=0) (fp:Nat→Value) (w:World) (hsp:SpRd w v1 v2 v3 v4 fp S) (k a t:Int) :
  Calls Tryz.prog 28 #[.agg #[v1,v2,v3,v4],.agg #[.int .i64 k,.int .i64 a,.int .i64 t]] w fun e w'=>e = .returned (.bool (ftOk S (k,a,t)))∧Below w.heap.size w w':=by
 have hb:=below_two w (.cells #[v1,v2,v3,v4] 27) (.cells #[.int .i64 k,.int .i64 a,.int .i64 t] 74)
 have HB:=hid hb
 have HHAS:=hid (fun (W:World) (hb:Below w.heap.size w W)=>has30_any v1 v2 v3 v4 S hc fp W (hsp.later hb) a t)
 obtain ⟨_,_,⟨a3,c3,rfl⟩,⟨a4,c4,rfl⟩⟩:=hsp.forms
 clear hsp hc hb
 by_cases h1:k=1∨k=2
 ·rw [ft_pipe h1]
  rcases h1 with rfl | rfl
  all_goals
   go_enter Tryz.func28,Tryz.ntmps28
   go_wp2_with fail
   refine (HHAS.out _ HB.out).mono ?_
   rintro e W ⟨rfl,hb⟩
   have hb2:=below_step HB.out hb
   clear hb HHAS HB
   go_wp2
   go_ret
   exact ⟨rfl,hb2⟩
 clear HHAS
 by_cases h2:k=3∨k=4
 ·rw [ft_stop h2]
  obtain ⟨n,hn⟩:∃ n,S.ss.length=n:=⟨_,rfl⟩
  rw [hn] at HB ⊢
  clear h1 hn
  by_cases c1:0≤a
  ·have d1:decide (0≤a)=true:=decide_eq_true c1
   by_cases c2:a<(n:Int)
   ·have d2:decide (a<(n:Int))=true:=decide_eq_true c2
    by_cases c3:t=0
    ·subst c3
     rw [d1,d2,show decide ((0:Int)=0)=true from rfl]
     rcases h2 with rfl | rfl
     all_goals
      go_enter Tryz.func28,Tryz.ntmps28
      go_wp2
      go_ret
      exact ⟨rfl,HB.out⟩
    ·have d3:decide (t=0)=false:=decide_eq_false c3
     have d4:(t==0)=false:=by rw [beq_eq_false_iff_ne];exact c3
     rw [d1,d2,d3]
     rcases h2 with rfl | rfl
     all_goals
      go_enter Tryz.func28,Tryz.ntmps28
      go_wp2
      go_ret
      exact ⟨rfl,HB.out⟩
   ·have d2:decide (a<(n:Int))=false:=decide_eq_false c2
    rw [d1,d2,Bool.false_and,Bool.and_false]
    rcases h2 with rfl | rfl
    all_goals
     go_enter Tryz.func28,Tryz.ntmps28
     go_wp2
     go_ret
     exact ⟨rfl,HB.out⟩
  ·have d1:decide (0≤a)=false:=decide_eq_false c1
   rw [d1,Bool.false_and]
   rcases h2 with rfl | rfl
   all_goals
    go_enter Tryz.func28,Tryz.ntmps28
    go_wp2
    go_ret
    exact ⟨rfl,HB.out⟩
 by_cases h3:k=5∨k=6
 ·rw [ft_cou h3]
  obtain ⟨n,hn⟩:∃ n,S.cs.length=n:=⟨_,rfl⟩
  rw [hn] at HB ⊢
  clear h1 h2 hn
  by_cases c1:0≤a
  ·have d1:decide (0≤a)=true:=decide_eq_true c1
   by_cases c2:a<(n:Int)
   ·have d2:decide (a<(n:Int))=true:=decide_eq_true c2
    by_cases c3:t=0
    ·subst c3
     rw [d1,d2,show decide ((0:Int)=0)=true from rfl]
     rcases h3 with rfl | rfl
     all_goals
      go_enter Tryz.func28,Tryz.ntmps28
      go_wp2
      go_ret
      exact ⟨rfl,HB.out⟩
    ·have d3:decide (t=0)=false:=decide_eq_false c3
     have d4:(t==0)=false:=by rw [beq_eq_false_iff_ne];exact c3
     rw [d1,d2,d3]
     rcases h3 with rfl | rfl
     all_goals
      go_enter Tryz.func28,Tryz.ntmps28
      go_wp2
      go_ret
      exact ⟨rfl,HB.out⟩
   ·have d2:decide (a<(n:Int))=false:=decide_eq_false c2
    rw [d1,d2,Bool.false_and,Bool.and_false]
    rcases h3 with rfl | rfl
    all_goals
     go_enter Tryz.func28,Tryz.ntmps28
     go_wp2
     go_ret
     exact ⟨rfl,HB.out⟩
  ·have d1:decide (0≤a)=false:=decide_eq_false c1
   rw [d1,Bool.false_and]
   rcases h3 with rfl | rfl
   all_goals
    go_enter Tryz.func28,Tryz.ntmps28
    go_wp2
    go_ret
    exact ⟨rfl,HB.out⟩
 rw [ft_none (by omega)]
 have d1:(k==1)=false:=by rw [beq_eq_false_iff_ne];omega
 have d2:(k==2)=false:=by rw [beq_eq_false_iff_ne];omega
 have d3:(k==3)=false:=by rw [beq_eq_false_iff_ne];omega
 have d4:(k==4)=false:=by rw [beq_eq_false_iff_ne];omega
 have d5:(k==5)=false:=by rw [beq_eq_false_iff_ne];omega
 have d6:(k==6)=false:=by rw [beq_eq_false_iff_ne];omega
 clear h1 h2 h3
 go_enter Tryz.func28,Tryz.ntmps28
 go_wp2
 go_ret
 exact ⟨rfl,HB.out⟩
theorem less30_any (a b c x y z:Int) (w:World):Calls Tryz.prog 29 #[.agg #[.int .i64 a,.int .i64 b,.int .i64 c],.agg #[.int .i64 x,.int .i64 y,.int .i64 z]] w fun e w'=>e = .returned (.bool (decide (fLt (a,b,c) (x,y,z))))∧Below w.heap.size w w':=by
 have HB:=hid (below_two w (.cells #[.int .i64 a,.int .i64 b,.int .i64 c] 74) (.cells #[.int .i64 x,.int .i64 y,.int .i64 z] 74))
 by_cases h1:a=x
 ·have d1:(a==x)=true:=by rw [h1];exact beq_self_eq_true _
  have e1:(a != x)=false:=by rw [bne,d1];rfl
  by_cases h2:b=y
  ·have d2:(b==y)=true:=by rw [h2];exact beq_self_eq_true _
   have e2:(b != y)=false:=by rw [bne,d2];rfl
   have HR:=hid (show decide (fLt (a,b,c) (x,y,z))=decide (c<z) from by
    rw [decide_eq_decide]
    unfold fLt
    simp only
    omega)
   rw [HR.out]
   clear h1 h2
   go_enter Tryz.func29,Tryz.ntmps29
   go_wp2
   go_ret
   exact ⟨rfl,HB.out⟩
  ·have d2:(b==y)=false:=by rw [beq_eq_false_iff_ne];exact h2
   have e2:(b != y)=true:=by rw [bne,d2];rfl
   have HR:=hid (show decide (fLt (a,b,c) (x,y,z))=decide (b<y) from by
    rw [decide_eq_decide]
    unfold fLt
    simp only
    omega)
   rw [HR.out]
   clear h1 h2
   go_enter Tryz.func29,Tryz.ntmps29
   go_wp2
   go_ret
   exact ⟨rfl,HB.out⟩
 ·have d1:(a==x)=false:=by rw [beq_eq_false_iff_ne];exact h1
  have e1:(a != x)=true:=by rw [bne,d1];rfl
  have HR:=hid (show decide (fLt (a,b,c) (x,y,z))=decide (a<x) from by
   rw [decide_eq_decide]
   unfold fLt
   simp only
   omega)
  rw [HR.out]
  clear h1
  go_enter Tryz.func29,Tryz.ntmps29
  go_wp2
  go_ret
  exact ⟨rfl,HB.out⟩
theorem fltE_bad {S:Sp} {F:List Ft} (h:(checkP S).2≠0):fltE S F=(checkP S).2:=by unfold fltE;rw [if_pos h]
theorem fltE_long {S:Sp} {F:List Ft} (h:(checkP S).2=0) (hl:10<F.length):fltE S F=3:=by unfold fltE;rw [if_neg (by omega),if_pos hl]
theorem fltE_arg {S:Sp} {F:List Ft} (h:(checkP S).2=0) (hl:¬ 10<F.length) (ha:¬ (F.Pairwise fLt∧∀ x∈F,ftOk S x=true)):fltE S F=2:=by unfold fltE;rw [if_neg (by omega),if_neg hl,if_pos ha]
theorem fltE_twice {S:Sp} {F:List Ft} (h:(checkP S).2=0) (hl:¬ 10<F.length) (ha:F.Pairwise fLt∧∀ x∈F,ftOk S x=true):fltE S F=if conB F=true then 8 else 0:=by unfold fltE;rw [if_neg (by omega),if_neg hl,if_neg (by simpa using ha)]
end Go.Proofs.YteflhbfgpknabaaGreatDoor
