/-
  A part of the proof: WE,VN,EA,WG.
-/
import Derived.Test.YteflhbfgpknabaaGreatDoorB01
import Derived.Test.YteflhbfgpknabaaGreatDoorL20
import Derived.Test.YteflhbfgpknabaaGreatDoorL21
import Derived.Test.YteflhbfgpknabaaGreatDoorL08
import Derived.Test.YteflhbfgpknabaaGreatDoorL06
import Derived.Test.YteflhbfgpknabaaGreatDoorL23
import Derived.Deep.RegionHeld3
set_option maxRecDepth 100000
set_option maxHeartbeats 6400000
namespace Go.Proofs.YteflhbfgpknabaaGreatDoor
open Go.RowKit Go.Shelf
theorem risN_all {α:Type} {R:α→α→Prop} (ht:∀ {a b c},R a b→R b c→R a c) {l:List α} (h:RisN R l l.length):l.Pairwise R:=pairwise_of (R:=R) ht fun j hj=>h j hj hj
theorem trlE_bad {S:Sp} {L:List Tl} (h:(checkP S).2≠0):trlE S L=(checkP S).2:=by unfold trlE;rw [if_pos h]
theorem trlE_long {S:Sp} {L:List Tl} (h:(checkP S).2=0) (hl:20<L.length):trlE S L=3:=by unfold trlE;rw [if_neg (by omega),if_pos hl]
theorem trlE_in {S:Sp} {L:List Tl} (h:(checkP S).2=0) (hl:¬ 20<L.length):trlE S L=firstErr (tlF S L) L.length:=by unfold trlE;rw [if_neg (by omega),if_neg hl]
theorem trlE_at {S:Sp} {L:List Tl} (h:(checkP S).2=0) (hl:¬ 20<L.length) {i:Nat} (hi:i<L.length) (h0:firstErr (tlF S L) i=0) {e:Int} (he:tlF S L i=e) (hne:e≠0):trlE S L=e:=by
 have h1:firstErr (tlF S L) (i+1)=e:=(firstErr_next h0).trans he
 rw [trlE_in h hl,firstErr_at (k:=i+1) (by rw [h1];exact hne) hi,h1]
theorem tlF_at {S:Sp} {L:List Tl} {i:Nat} (hi:i<L.length):tlF S L i=if hndE S L[i].h≠0 then hndE S L[i].h else if pipB S L[i].l=true then 0 else 2:=by
 unfold tlF
 rw [List.getElem?_eq_getElem hi]
theorem any_has {S:Sp} {l:List Pp}:(l.any fun p=>!(decide (p∈allFrom 0 S.rs)))=!(l.all fun p=>decide (p∈allFrom 0 S.rs)):=by
 induction l with
 | nil=>rfl
 | cons p l ih=>rw [List.any_cons,List.all_cons,ih,Bool.not_and]
theorem checkD_any (v1 v2 v3 v4:Value) (S:Sp) (ok:SpWk S) (fp:Nat→Value) (L:List Tl) (hsm:∀ t∈L,HnSm t.h∧t.l.length≤1000000) (tv:Value) (gk gs gc gh:Nat→Value) (w:World) (ht:Tabs w) (hsp:SpRd w v1 v2 v3 v4 fp S) (htv:TlRd w tv L gk gs gc gh) (hll:L.length≤1000000) :
  Calls Tryz.prog 18 #[.agg #[v1,v2,v3,v4],tv] w (NumR (trlE S L) w):=by
 obtain ⟨at',ct,ev⟩:=htv.form
 subst ev
 have HSP:=Lib.hid hsp
 have HT:=Lib.hid htv
 have HTB:=Lib.hid ht
 have HOK:=Lib.hid ok
 have HSM:=Lib.hid hsm
 obtain ⟨fl,hfl⟩:∃ fl,(checkP S).1=fl:=⟨_,rfl⟩
 obtain ⟨ce,hce⟩:∃ ce,(checkP S).2=ce:=⟨_,rfl⟩
 have hcv:ckV (checkP S) = .tuple #[.agg #[.int .i64 fl.1,.int .i64 fl.2.1,.int .i64 fl.2.2],.int .i64 ce]:=by unfold ckV;rw [hfl,hce]
 have HCE:=Lib.hid hce
 have B0:=Lib.hid (Blk.new w 27 #[v1,v2,v3,v4])
 have HB:=Lib.hid (show Below w.heap.size w (w.alloc (.cells #[v1,v2,v3,v4] 27)) from (Below.refl _ _).alloc (Nat.le_refl _) _)
 have HCK:=Lib.hid (show Calls Tryz.prog 40 #[.agg #[v1,v2,v3,v4]] _ _ from (check_wk v1 v2 v3 v4 S ok _ (ht.below HB.out) fp (hsp.later HB.out)))
 rw [hcv] at HCK
 clear hsp ok hcv hfl hce ht htv hsm
 go_enter Tryz.func18,Tryz.ntmps18
 go_wp2_with fail
 refine HCK.out.mono ?_
 generalize w.alloc (.cells #[v1,v2,v3,v4] 27)=W at *
 rintro e W1 ⟨rfl,hb1⟩
 clear HCK
 obtain ⟨W2,hw2⟩:∃ W2,W1.alloc (.cells #[.int .i64 fl.1,.int .i64 fl.2.1,.int .i64 fl.2.2] 69)=W2:=⟨_,rfl⟩
 have hb2:Below W1.heap.size W1 W2:=by rw [← hw2];exact (Below.refl _ _).alloc (Nat.le_refl _) _
 have HB2:=Lib.hid (below_step (below_step HB.out hb1) hb2)
 have C0:=Lib.hid ((B0.out.below hb1).below hb2)
 clear hb1 hb2 HB B0
 by_cases hz:ce=0
 case neg =>
  have q1:(ce==0)=false:=by simpa using hz
  have q2:(ce != 0)=true:=by simpa using hz
  have HE:=Lib.hid (show trlE S L=ce by rw [trlE_bad (by rw [HCE.out];exact hz),HCE.out])
  clear hz
  go_wp2
  try rw [hw2]
  go_ret
  exact numR HE.out HB2.out
 subst hz
 by_cases hlen:20<L.length
 ·have d1:decide (20<L.length)=true:=decide_eq_true hlen
  have d2:decide ((20:Int)<(L.length:Int))=true:=decide_eq_true (by omega)
  have HE:=Lib.hid (trlE_long HCE.out hlen)
  clear hlen
  go_wp2
  try rw [hw2]
  go_ret
  exact numR HE.out HB2.out
 have d1:decide (20<L.length)=false:=decide_eq_false hlen
 have d2:decide ((20:Int)<(L.length:Int))=false:=decide_eq_false (by omega)
 have HL:=Lib.hid hlen
 clear hlen
 have HF0:Hid (firstErr (tlF S L) 0=0):=Lib.hid rfl
 go_wp2
 try rw [hw2]
 clear d1 d2 hw2
 go_loopw [23] (fun x wr=>∃ i:Nat,i≤L.length∧x = .int .i64 i∧Hid (firstErr (tlF S L) i=0)∧Hid (Below w.heap.size w wr)∧Hid (Blk wr w.heap.size 27 #[v1,v2,v3,v4])) (fun x _=>L.length-(intOf x).toNat)
 case atStart=>exact ⟨0,Nat.zero_le _,rfl,HF0,HB2,C0⟩
 clear HF0 HB2 C0
 obtain ⟨i,hi,rfl,hF0,hB,hC⟩:=hrel
 by_cases hil:i<L.length
 ·have hi2:(i:Int)<(L.length:Int):=by omega
  obtain ⟨b,o,c',ev,hbl,q0,q1,q2,q3⟩:=(HT.out.later hB.out).at' hil
  cases ev
  have HAT:=Lib.hid (fun (e:Int) (he:tlF S L i=e) (hne:e≠0)=>trlE_at HCE.out HL.out hil hF0.out he hne)
  have HTF:=Lib.hid (tlF_at (S:=S) hil)
  have HNX:=Lib.hid (fun (h:tlF S L i=0)=>show firstErr (tlF S L) (i+1)=0 from (firstErr_next hF0.out).trans h)
  obtain ⟨hs1,hs2⟩:=HSM.out _ (List.getElem_mem hil)
  have HCH:=Lib.hid (fun (W:World) (hb:Below w.heap.size w W)=>checkS_any v1 v2 v3 v4 S HOK.out fp (gk i) (gs i) (gc i) L[i].h hs1 W (HTB.out.below hb) (HSP.out.later hb) ((HT.out.later hb).hd i hil))
  have HRI:=Lib.hid (fun (W:World) (hb:Below w.heap.size w W)=>risingP_any L[i].l (gh i) W hs2 ((HT.out.later hb).pp i hil))
  have HAN:=Lib.hid (fun (W:World) (hb:Below w.heap.size w W)=>anyPipe_any L[i].l (gh i) W ((HT.out.later hb).pp i hil) hs2)
  obtain ⟨⟨ka,kc,ek⟩,⟨sa,sc,es⟩,⟨ca,cc,ec⟩⟩:=((HT.out.later hB.out).hd i hil).forms
  obtain ⟨pa,pc,ep⟩:=((HT.out.later hB.out).pp i hil).form
  rw [List.length_map] at ep
  rw [ek] at q0 HCH
  rw [es] at q1 HCH
  rw [ec] at q2 HCH
  rw [ep] at q3 HRI HAN
  obtain ⟨x,hx⟩:∃ x,L[i]=x:=⟨_,rfl⟩
  rw [hx] at HTF HCH HRI HAN q0 q1 q2 q3
  rw [show hnE S x.h=hndE S x.h from by unfold hnE;rw [if_neg (by rw [HCE.out];simp)]] at HCH
  clear hx hs1 hs2 ek es ec ep
  go_upto_region 9 with fail
  have hb4:Below wr.heap.size wr (wr.alloc (.cells #[.slice ka x.h.ks.length kc,.slice sa x.h.ss.length sc,.slice ca x.h.cs.length cc,.slice pa x.l.length pc] 58)):=(Below.refl _ wr).alloc (Nat.le_refl _) _
  have HB4:=Lib.hid (below_step hB.out hb4)
  have K4:=Lib.hid (Blk.new wr 58 #[.slice ka x.h.ks.length kc,.slice sa x.h.ss.length sc,.slice ca x.h.cs.length cc,.slice pa x.l.length pc])
  have C4:=Lib.hid (hC.out.below hb4)
  obtain ⟨X,hXe⟩:∃ X,wr.heap.size=X:=⟨_,rfl⟩
  rw [hXe] at K4 ⊢
  generalize wr.alloc (.cells #[.slice ka x.h.ks.length kc,.slice sa x.h.ss.length sc,.slice ca x.h.cs.length cc,.slice pa x.l.length pc] 58)=W4 at *
  obtain ⟨s0,s1,s2,s3⟩:=C4.out.four
  obtain ⟨y0,y1,y2,y3⟩:=K4.out.four
  clear hb4 hXe hB hC q0 q1 q2 q3 hF0
  go_wp2_with fail
  refine (HCH.out _ HB4.out).mono ?_
  rintro e W5 ⟨rfl,hb5⟩
  have HB5:=Lib.hid (below_step HB4.out hb5)
  have K5:=Lib.hid (K4.out.below hb5)
  have C5:=Lib.hid (C4.out.below hb5)
  clear hb5 HB4 K4 C4 s0 s1 s2 s3 y0 y1 y2 y3 HCH
  have z3:W5.cell? ⟨X,3,none⟩=some (.slice pa x.l.length pc):=K5.out.cell 3
  obtain ⟨he,hhe⟩:∃ he,hndE S x.h=he:=⟨_,rfl⟩
  rw [hhe] at HTF ⊢
  clear hhe
  by_cases hez:he=0
  case neg =>
   have f1:(he==0)=false:=by simpa using hez
   have f2:(he != 0)=true:=by simpa using hez
   have HE:=Lib.hid (HAT.out he (HTF.out.trans (if_pos hez)) hez)
   clear hez
   go_wp2
   go_ret
   exact numR HE.out HB5.out
  subst hez
  have HTF2:=Lib.hid (HTF.out.trans (if_neg (by simp)))
  clear HTF
  go_wp2_with fail
  refine (HRI.out _ HB5.out).mono ?_
  rintro e W6 ⟨rfl,hb6⟩
  have HB6:=Lib.hid (below_step HB5.out hb6)
  have K6:=Lib.hid (K5.out.below hb6)
  have C6:=Lib.hid (C5.out.below hb6)
  clear hb6 HB5 K5 C5 z3 HRI
  have z3:W6.cell? ⟨X,3,none⟩=some (.slice pa x.l.length pc):=K6.out.cell 3
  by_cases hri:x.l.Pairwise ppLt
  case neg =>
   have e1:decide (x.l.Pairwise ppLt)=false:=decide_eq_false hri
   have HE:=Lib.hid (HAT.out 2 (HTF2.out.trans (if_neg (fun h=>hri (pipB_iff.1 h).1))) (by decide))
   clear hri
   go_wp2
   go_ret
   exact numR HE.out HB6.out
  have e1:decide (x.l.Pairwise ppLt)=true:=decide_eq_true hri
  have eg1:∀ args w,(callFunc 44 args).run Tryz.prog w = .ok (.enter 44 args) w:=enters_of Tryz.func44 (by kernel_rfl) rfl
  have hA1:=Lib.hid (HAN.out W6 HB6.out (fun p=>!(decide (p∈allFrom 0 S.rs))) 44 #[.pointer (some ⟨w.heap.size,0,none⟩)] eg1 (fun W y hb=>(hasNot_any v1 v2 v3 v4 S HCE.out fp W (HSP.out.later (below_step HB6.out hb)) w.heap.size (C6.out.below hb) y.1 y.2).mono fun _ _ h=>⟨h.1,below_step hb h.2⟩))
  have HRI2:=Lib.hid hri
  clear hri eg1 HAN
  go_wp2_with fail
  refine hA1.out.mono ?_
  rintro e W7 ⟨rfl,hb7⟩
  have HB7:=Lib.hid (below_step HB6.out hb7)
  have C7:=Lib.hid (C6.out.below hb7)
  clear hb7 HB6 K6 C6 z3 hA1
  have HPB:=Lib.hid (show pipB S x.l=!(x.l.any fun p=>!(decide (p∈allFrom 0 S.rs))) from by
   unfold pipB
   rw [any_has,Bool.not_not,decide_eq_true HRI2.out,Bool.true_and])
  obtain ⟨bb,hbb⟩:∃ bb,(x.l.any fun p=>!(decide (p∈allFrom 0 S.rs)))=bb:=⟨_,rfl⟩
  rw [hbb] at HPB ⊢
  clear hbb
  cases bb with
  | true =>
   have HE:=Lib.hid (HAT.out 2 (HTF2.out.trans (if_neg (by rw [HPB.out];decide))) (by decide))
   go_wp2
   go_ret
   exact numR HE.out HB7.out
  | false =>
   have HN2:=Lib.hid (HNX.out (HTF2.out.trans (if_pos (by rw [HPB.out];rfl))))
   go_wp2
   go_roundw
   case rel=>exact ⟨i+1,by omega,by go_num,HN2,HB7,C7⟩
   case measure=>simp [intOf];omega
 ·have hi2:¬ (i:Int)<(L.length:Int):=by omega
  have hie:i=L.length:=by omega
  have HE:=Lib.hid (show trlE S L=0 by rw [trlE_in HCE.out HL.out,← hie];exact hF0.out)
  clear hie
  go_wp2
  go_ret
  exact numR HE.out hB.out
end Go.Proofs.YteflhbfgpknabaaGreatDoor
namespace Go.Proofs.YteflhbfgpknabaaGreatDoor
open Go.RowKit
theorem rising12_any (l:List Int) (v:Value) (lo up bad:Int) (hbad:bad≠0) (w:World) (hv:ARd w v 1 (l.map iC)) (hl:l.length≤10000) :
  Calls Tryz.prog 67 #[v,.int .i64 lo,.int .i64 up,.int .i64 bad] w fun e w'=>e = .returned (.int .i64 (risE l lo up bad))∧∃ n,w'=w.drewN n:=by
 obtain ⟨a,c,rfl⟩:=hv.intForm
 have HV:=Lib.hid hv
 have H0:Hid (∃ n,w=w.drewN n):=Lib.hid ⟨0,rfl⟩
 have HF0:Hid (firstErr (risF l lo up bad) 0=0):=Lib.hid rfl
 have HBD:=Lib.hid hbad
 clear hv hbad
 go_enter Tryz.func67,Tryz.ntmps67
 go_wp2
 go_loopw [9] (fun x wr=>∃ i:Nat,i≤l.length∧x = .int .i64 i∧Hid (firstErr (risF l lo up bad) i=0)∧Hid (∃ n,wr=w.drewN n)) (fun x _=>l.length-(intOf x).toNat)
 case atStart=>exact ⟨0,Nat.zero_le _,rfl,HF0,H0⟩
 clear HF0 H0
 obtain ⟨i,hi,rfl,hF,hW⟩:=hrel
 obtain ⟨nn,hnn⟩:=hW.out
 have hbw:Below w.heap.size w wr:=by rw [hnn];exact below_drewN (Below.refl _ _) _
 have HBW:=Lib.hid hbw
 have HNN:=Lib.hid hnn
 clear hnn hbw hW
 by_cases hil:i<l.length
 ·have hi2:(i:Int)<(l.length:Int):=by omega
  obtain ⟨b,o,c',ev,hbl,q0⟩:=(HV.out.later HBW.out).intAt i hil
  cases ev
  have HO:=Lib.hid (fun (h:l[i]<lo∨up<l[i])=>risE_at hil hF.out (risF_out hil h) HBD.out)
  have HI:=Lib.hid (fun (h1:¬ l[i]<lo) (h2:¬ up<l[i])=>risF_in (bad:=bad) hil h1 h2)
  obtain ⟨x,hx⟩:∃ x,l[i]=x:=⟨_,rfl⟩
  rw [hx] at q0 HO HI
  have HX:=Lib.hid hx
  clear hx
  by_cases c1:x<lo
  ·have HE:=Lib.hid (HO.out (.inl c1))
   have d1:decide (x<lo)=true:=decide_eq_true c1
   clear c1 HO HI
   go_wp2
   go_ret
   exact ⟨congrArg (fun z=>Ending.returned (.int .i64 z)) HE.out.symm,_,HNN.out⟩
  have d1:decide (x<lo)=false:=decide_eq_false c1
  by_cases c2:up<x
  ·have HE:=Lib.hid (HO.out (.inr c2))
   have d2:decide (up<x)=true:=decide_eq_true c2
   clear c1 c2 HO HI
   go_wp2
   go_ret
   exact ⟨congrArg (fun z=>Ending.returned (.int .i64 z)) HE.out.symm,_,HNN.out⟩
  have d2:decide (up<x)=false:=decide_eq_false c2
  have HQ:=Lib.hid (HI.out c1 c2)
  clear c1 c2 HO HI
  by_cases hz:i=0
  ·have HN0:=Lib.hid (show firstErr (risF l lo up bad) (i+1)=0 by rw [firstErr_next hF.out,HQ.out,if_neg (by omega)])
   have d3:decide (0<i)=false:=decide_eq_false (by omega)
   have d4:decide ((0:Int)<(i:Int))=false:=decide_eq_false (by omega)
   clear hz
   go_wp2_with fail
   go_quiet (fail)
   have HN2:Hid (∃ n,wr.drewN nq=w.drewN n):=Lib.hid ⟨nn+nq,by rw [HNN.out];exact World.drewN_drewN _ _ _⟩
   go_wp2
   go_roundw
   case rel=>exact ⟨i+1,by omega,by go_num,HN0,HN2⟩
   case measure=>simp [intOf];omega
  ·have d3:decide (0<i)=true:=decide_eq_true (by omega)
   have d4:decide ((0:Int)<(i:Int))=true:=decide_eq_true (by omega)
   have hi0:0<i:=by omega
   obtain ⟨b',o',c',ev,_,q1⟩:=(HV.out.later HBW.out).intAt (i-1) (by omega)
   cases ev
   have hgd:l.getD (i-1) 0=l[i-1]'(by omega):=getD_int (by omega)
   rw [hgd] at HQ
   obtain ⟨y,hy⟩:∃ y,l[i-1]'(by omega)=y:=⟨_,rfl⟩
   rw [hy] at q1 HQ
   have e1:IntKind.i64.wrap ((i:Int)-1)=(i:Int)-1:=IntWalk.i64_in _ (by omega)
   have e2:0≤(i:Int)-1:=by omega
   have e3:((i:Int)-1).toNat=i-1:=by omega
   have e4:(i:Int)-1<(l.length:Int):=by omega
   have e5:1≤(i:Int):=by omega
   clear hy hgd
   by_cases c3:x≤y
   ·have HE:=Lib.hid (risE_at hil hF.out (by rw [HQ.out,if_pos ⟨hi0,c3⟩]) (by decide:(8:Int)≠0))
    have d5:decide (x≤y)=true:=decide_eq_true c3
    clear c3
    go_wp2_with fail
    go_quiet (fail)
    have HN2:Hid (∃ n,wr.drewN nq=w.drewN n):=Lib.hid ⟨nn+nq,by rw [HNN.out];exact World.drewN_drewN _ _ _⟩
    clear e1 e2 e3 e4 e5
    go_wp2
    go_ret
    exact ⟨congrArg (fun z=>Ending.returned (.int .i64 z)) HE.out.symm,HN2.out⟩
   ·have HN0:=Lib.hid (show firstErr (risF l lo up bad) (i+1)=0 by rw [firstErr_next hF.out,HQ.out,if_neg (fun q=>c3 q.2)])
    have d5:decide (x≤y)=false:=decide_eq_false c3
    clear c3
    go_wp2_with fail
    go_quiet (fail)
    have HN2:Hid (∃ n,wr.drewN nq=w.drewN n):=Lib.hid ⟨nn+nq,by rw [HNN.out];exact World.drewN_drewN _ _ _⟩
    clear e1 e2 e3 e4 e5
    go_wp2
    go_roundw
    case rel=>exact ⟨i+1,by omega,by go_num,HN0,HN2⟩
    case measure=>simp [intOf];omega
 ·have hi2:¬ (i:Int)<(l.length:Int):=by omega
  have HE:=Lib.hid (show risE l lo up bad=0 by unfold risE;rw [show l.length=i by omega];exact hF.out)
  go_wp2
  go_ret
  exact ⟨congrArg (fun z=>Ending.returned (.int .i64 z)) HE.out.symm,_,HNN.out⟩
theorem check12_any (v1 v2 v3 v4:Value) (S:Sp) (ok:SpWk S) (fp:Nat→Value) (vk vs vc:Value) (H:Hn) (hm:HnSm H) (w:World) (hsp:SpRd w v1 v2 v3 v4 fp S) (hh:HnRd w vk vs vc H) :
  Calls Tryz.prog 33 #[.agg #[v1,v2,v3,v4],.agg #[vk,vs,vc]] w (NumR (hnE S H) w):=by
 obtain ⟨⟨a1,c1,rfl⟩,_,⟨a3,c3,rfl⟩,⟨a4,c4,rfl⟩⟩:=hsp.forms
 obtain ⟨⟨ak,ck,rfl⟩,⟨as',cs',rfl⟩,⟨ac,cc,rfl⟩⟩:=hh.forms
 have HSP:=Lib.hid hsp
 have HOK:=Lib.hid ok
 have HH:=Lib.hid hh
 have HM:=Lib.hid hm
 obtain ⟨fl,hfl⟩:∃ fl,(checkP S).1=fl:=⟨_,rfl⟩
 obtain ⟨ce,hce⟩:∃ ce,(checkP S).2=ce:=⟨_,rfl⟩
 have hcv:ckV (checkP S) = .tuple #[.agg #[.int .i64 fl.1,.int .i64 fl.2.1,.int .i64 fl.2.2],.int .i64 ce]:=by unfold ckV;rw [hfl,hce]
 have HCV:=Lib.hid hcv
 have HCE:=Lib.hid hce
 have b0:=(Blk.new w 27 #[.slice a1 S.ds.length c1,v2,.slice a3 S.ss.length c3,.slice a4 S.cs.length c4]).alloc (.cells #[.slice ak H.ks.length ck,.slice as' H.ss.length cs',.slice ac H.cs.length cc] 32)
 have b1:=Blk.new (w.alloc (.cells #[.slice a1 S.ds.length c1,v2,.slice a3 S.ss.length c3,.slice a4 S.cs.length c4] 27)) 32 #[.slice ak H.ks.length ck,.slice as' H.ss.length cs',.slice ac H.cs.length cc]
 rw [World.size_alloc] at b1
 have B0:=Lib.hid b0
 have B1:=Lib.hid b1
 have HB:=Lib.hid (below_two w (.cells #[.slice a1 S.ds.length c1,v2,.slice a3 S.ss.length c3,.slice a4 S.cs.length c4] 27) (.cells #[.slice ak H.ks.length ck,.slice as' H.ss.length cs',.slice ac H.cs.length cc] 32))
 clear hsp ok hh hcv hfl hce b0 b1 hm
 go_enter Tryz.func33,Tryz.ntmps33
 go_wp2_with fail
 generalize (w.alloc (.cells #[.slice a1 S.ds.length c1,v2,.slice a3 S.ss.length c3,.slice a4 S.cs.length c4] 27)).alloc (.cells #[.slice ak H.ks.length ck,.slice as' H.ss.length cs',.slice ac H.cs.length cc] 32)=W at *
 refine (rcheck_wk _ _ _ _ S HOK.out _ fp (HSP.out.later HB.out)).mono ?_
 rw [HCV.out]
 rintro e W1 ⟨rfl,hb1⟩
 obtain ⟨W2,hw2⟩:∃ W2,W1.alloc (.cells #[.int .i64 fl.1,.int .i64 fl.2.1,.int .i64 fl.2.2] 69)=W2:=⟨_,rfl⟩
 have hb2:Below W1.heap.size W1 W2:=by rw [← hw2];exact (Below.refl _ _).alloc (Nat.le_refl _) _
 have HB2:=Lib.hid (below_step (below_step HB.out hb1) hb2)
 have C0:=Lib.hid ((B0.out.below hb1).below hb2)
 have C1:=Lib.hid ((B1.out.below hb1).below hb2)
 clear hb1 hb2 HB B0 B1
 obtain ⟨s0,s1,s2,s3⟩:=C0.out.four
 have h0:W2.cell? ⟨w.heap.size+1,0,none⟩=some (.slice ak H.ks.length ck):=C1.out.cell 0
 by_cases hz:ce=0
 case neg =>
  have q1:(ce==0)=false:=by simpa using hz
  have q2:(ce != 0)=true:=by simpa using hz
  have HE:=Lib.hid (show hnE S H=ce by rw [hnE_bad (by rw [HCE.out];exact hz),HCE.out])
  clear hz
  go_wp2
  try rw [hw2]
  go_ret
  exact numR HE.out HB2.out
 subst hz
 by_cases hlen:H.ks.length=S.ds.length
 case neg =>
  have q3:((H.ks.length:Int)==(S.ds.length:Int))=false:=by rw [beq_eq_false_iff_ne];omega
  have HE:=Lib.hid (hnE_len HCE.out hlen)
  clear hlen
  go_wp2
  try rw [hw2]
  go_ret
  exact numR HE.out HB2.out
 have HL:=Lib.hid hlen
 have q3:((H.ks.length:Int)==(S.ds.length:Int))=true:=by rw [beq_iff_eq];omega
 have hkn:=HM.out.kn
 have hrefl:Hid (Below W2.heap.size W2 W2):=Lib.hid (Below.refl _ _)
 have HF0:Hid (firstErr (keyF S H) 0=0):=Lib.hid rfl
 clear hlen
 go_wp2
 go_loopw [7] (fun x wr=>∃ i:Nat,i≤H.ks.length∧x = .int .i64 i∧Hid (firstErr (keyF S H) i=0)∧Hid (Below W2.heap.size W2 wr)) (fun x _=>H.ks.length-(intOf x).toNat)
 case atStart=>exact ⟨0,Nat.zero_le _,rfl,HF0,hrefl⟩
 clear s0 s1 s2 s3 h0 hrefl hw2 HF0 q3
 obtain ⟨i,hi,rfl,hF,hW⟩:=hrel
 have HBW:=Lib.hid (below_step HB2.out hW.out)
 obtain ⟨s0,s1,s2,s3⟩:=(C0.out.below hW.out).four
 have hC1:=C1.out.below hW.out
 have h0:wr.cell? ⟨w.heap.size+1,0,none⟩=some (.slice ak H.ks.length ck):=hC1.cell 0
 have h1:wr.cell? ⟨w.heap.size+1,1,none⟩=some (.slice as' H.ss.length cs'):=hC1.cell 1
 have h2:wr.cell? ⟨w.heap.size+1,2,none⟩=some (.slice ac H.cs.length cc):=hC1.cell 2
 clear hC1
 by_cases hil:i<H.ks.length
 ·have hid:i<S.ds.length:=by have:=HL.out;omega
  have hi2:(i:Int)<(H.ks.length:Int):=by omega
  have hi3:(i:Int)<(S.ds.length:Int):=by omega
  obtain ⟨b,o,c,ev,hbl,r0,r1,r2⟩:=(HSP.out.later HBW.out).dAt i hid
  cases ev
  obtain ⟨b',o',c',g,ev,g0,hg⟩:=(HH.out.later HBW.out).keyAt hil
  cases ev
  have hkl:=HM.out.ks i
  have hkf:=keyF_at (H:=H) hid
  obtain ⟨KL,hKL⟩:∃ KL,H.ks.getD i []=KL:=⟨_,rfl⟩
  rw [hKL] at hg hkl hkf
  obtain ⟨av,cv,rfl⟩:=hg.intForm
  clear hKL
  have HR:=Lib.hid (fun (nn:Nat)=>rising12_any KL _ S.ds[i].lo S.ds[i].hi 7 (by decide) (wr.drewN nn) (hg.later (below_drewN (Below.refl _ _) nn)) (by omega))
  rw [← hkf] at HR
  obtain ⟨re,hre⟩:∃ re,keyF S H i=re:=⟨_,rfl⟩
  rw [hre] at HR
  have HRE:=Lib.hid hre
  obtain ⟨lo,hlo⟩:∃ lo,lo=S.ds[i].lo:=⟨_,rfl⟩
  obtain ⟨up,hup⟩:∃ up,up=S.ds[i].hi:=⟨_,rfl⟩
  rw [← hlo] at r1 HR
  rw [← hup] at r2 HR
  clear hlo hup hg hre hkl hkf
  go_wp2_with fail
  go_quiet ((go_at_call 67;exact Calls.quiet_of (HR.out _)))
  have HB3:=Lib.hid (below_drewN hW.out nq)
  by_cases hrz:re=0
  ·subst hrz
   have HN:=Lib.hid (show firstErr (keyF S H) (i+1)=0 by rw [firstErr_next hF.out,HRE.out])
   go_wp2
   go_roundw
   case rel=>exact ⟨i+1,by omega,by go_num,HN,HB3⟩
   case measure=>simp [intOf];omega
  ·have q4:(re==0)=false:=by simpa using hrz
   have q5:(re != 0)=true:=by simpa using hrz
   have HE:=Lib.hid (hnE_key HCE.out HL.out hid hF.out HRE.out hrz)
   clear hrz
   go_wp2
   go_ret
   exact numR HE.out (below_step HB2.out HB3.out)
 ·have hi2:¬ (i:Int)<(H.ks.length:Int):=by omega
  have HK:=Lib.hid (show firstErr (keyF S H) S.ds.length=0 by rw [← HL.out,show H.ks.length=i by omega];exact hF.out)
  have hl2:=HM.out.ss
  have hl3:=HM.out.cs
  obtain ⟨_,_,hl4,hl5⟩:=sp_lens HCE.out
  obtain ⟨rs,hrs⟩:∃ r,risE H.ss 0 ((S.ss.length:Int)-1) 4=r:=⟨_,rfl⟩
  obtain ⟨rc,hrc⟩:∃ r,risE H.cs 0 ((S.cs.length:Int)-1) 4=r:=⟨_,rfl⟩
  have HRS:=Lib.hid (fun (W3:World) (hb:Below W2.heap.size W2 W3)=>rising12_any H.ss _ 0 ((S.ss.length:Int)-1) 4 (by decide) W3 ((HH.out.later (below_step HB2.out hb)).stops) (by omega))
  have HRC:=Lib.hid (fun (W3:World) (hb:Below W2.heap.size W2 W3)=>rising12_any H.cs _ 0 ((S.cs.length:Int)-1) 4 (by decide) W3 ((HH.out.later (below_step HB2.out hb)).cous) (by omega))
  rw [hrs] at HRS
  rw [hrc] at HRC
  have HS:=Lib.hid hrs
  have HC:=Lib.hid hrc
  have e1:IntKind.i64.wrap ((S.ss.length:Int)-1)=(S.ss.length:Int)-1:=IntWalk.i64_in _ (by omega)
  have e2:IntKind.i64.wrap ((S.cs.length:Int)-1)=(S.cs.length:Int)-1:=IntWalk.i64_in _ (by omega)
  clear hl2 hl3 hl4 hl5 hrs hrc
  go_wp2_with fail
  refine (HRS.out wr hW.out).mono ?_
  rintro e W3 ⟨rfl,n3,rfl⟩
  have hb3:=below_drewN hW.out n3
  have HB3:=Lib.hid (below_step HB2.out hb3)
  by_cases hrz:rs=0
  ·subst hrz
   have HE:=Lib.hid ((hnE_cou HCE.out HL.out HK.out HS.out).trans HC.out)
   go_wp2_with fail
   refine (HRC.out _ hb3).mono ?_
   rintro e W4 ⟨rfl,n4,rfl⟩
   have HB4:=Lib.hid (below_drewN HB3.out n4)
   go_wp2
   go_ret
   exact numR HE.out (by have:=HB4.out;rwa [World.drewN_drewN] at this)
  ·have q4:(rs==0)=false:=by simpa using hrz
   have q5:(rs != 0)=true:=by simpa using hrz
   have HE:=Lib.hid (hnE_stop HCE.out HL.out HK.out HS.out hrz)
   clear hrz
   go_wp2
   go_ret
   exact numR HE.out HB3.out
open Go.Shelf
end Go.Proofs.YteflhbfgpknabaaGreatDoor
