/-
  A part of the proof: EA,WG,WF,VP,ZB,VQ,VR,WI.
-/
import Derived.Test.YteflhbfgpknabaaGreatDoorL20
import Derived.Test.YteflhbfgpknabaaGreatDoorL06
import Derived.Test.YteflhbfgpknabaaGreatDoorL25
import Derived.Test.YteflhbfgpknabaaGreatDoorL23
import Derived.Deep.RegionHeld3
import Derived.Test.YteflhbfgpknabaaGreatDoorL21
import Derived.Test.YteflhbfgpknabaaGreatDoorL07
import Derived.Test.YteflhbfgpknabaaGreatDoorL24
set_option maxRecDepth 100000
set_option maxHeartbeats 12800000
namespace Go.Proofs.YteflhbfgpknabaaGreatDoor
open Go.RowKit
theorem rising12_any (l:List Int) (v:Value) (lo up bad:Int) (hbad:bad≠0) (w:World) (hv:ARd w v 1 (l.map iC)) (hl:l.length≤10000) :
  Calls Tryz.prog 67 #[v,.int .i64 lo,.int .i64 up,.int .i64 bad] w fun e w'=>e = .returned (.int .i64 (risE l lo up bad))∧∃ n,w'=w.drewN n:=by
 obtain ⟨a,c,rfl⟩:=hv.intForm
 have HV:=Lib.hid hv
 have H0:Hid (∃ n,w=w.drewN n):=Lib.hid ⟨0,rfl⟩
 have HF0:Hid (firstErr (risF l lo up bad) 0=0):=Lib.hid rfl
 have HBD:=Lib.hid hbad
 clear hv hbad
 go_enter Tryz.func67,Tryz.ntmps67
 go_wp2
 go_loopw [9] (fun x wr=>∃ i:Nat,i≤l.length∧x = .int .i64 i∧Hid (firstErr (risF l lo up bad) i=0)∧Hid (∃ n,wr=w.drewN n)) (fun x _=>l.length-(intOf x).toNat)
 case atStart=>exact ⟨0,Nat.zero_le _,rfl,HF0,H0⟩
 clear HF0 H0
 obtain ⟨i,hi,rfl,hF,hW⟩:=hrel
 obtain ⟨nn,hnn⟩:=hW.out
 have hbw:Below w.heap.size w wr:=by rw [hnn];exact below_drewN (Below.refl _ _) _
 have HBW:=Lib.hid hbw
 have HNN:=Lib.hid hnn
 clear hnn hbw hW
 by_cases hil:i<l.length
 ·have hi2:(i:Int)<(l.length:Int):=by omega
  obtain ⟨b,o,c',ev,hbl,q0⟩:=(HV.out.later HBW.out).intAt i hil
  cases ev
  have HO:=Lib.hid (fun (h:l[i]<lo∨up<l[i])=>risE_at hil hF.out (risF_out hil h) HBD.out)
  have HI:=Lib.hid (fun (h1:¬ l[i]<lo) (h2:¬ up<l[i])=>risF_in (bad:=bad) hil h1 h2)
  obtain ⟨x,hx⟩:∃ x,l[i]=x:=⟨_,rfl⟩
  rw [hx] at q0 HO HI
  have HX:=Lib.hid hx
  clear hx
  by_cases c1:x<lo
  ·have HE:=Lib.hid (HO.out (.inl c1))
   have d1:decide (x<lo)=true:=decide_eq_true c1
   clear c1 HO HI
   go_wp2
   go_ret
   exact ⟨congrArg (fun z=>Ending.returned (.int .i64 z)) HE.out.symm,_,HNN.out⟩
  have d1:decide (x<lo)=false:=decide_eq_false c1
  by_cases c2:up<x
  ·have HE:=Lib.hid (HO.out (.inr c2))
   have d2:decide (up<x)=true:=decide_eq_true c2
   clear c1 c2 HO HI
   go_wp2
   go_ret
   exact ⟨congrArg (fun z=>Ending.returned (.int .i64 z)) HE.out.symm,_,HNN.out⟩
  have d2:decide (up<x)=false:=decide_eq_false c2
  have HQ:=Lib.hid (HI.out c1 c2)
  clear c1 c2 HO HI
  by_cases hz:i=0
  ·have HN0:=Lib.hid (show firstErr (risF l lo up bad) (i+1)=0 by rw [firstErr_next hF.out,HQ.out,if_neg (by omega)])
   have d3:decide (0<i)=false:=decide_eq_false (by omega)
   have d4:decide ((0:Int)<(i:Int))=false:=decide_eq_false (by omega)
   clear hz
   go_wp2_with fail
   go_quiet (fail)
   have HN2:Hid (∃ n,wr.drewN nq=w.drewN n):=Lib.hid ⟨nn+nq,by rw [HNN.out];exact World.drewN_drewN _ _ _⟩
   go_wp2
   go_roundw
   case rel=>exact ⟨i+1,by omega,by go_num,HN0,HN2⟩
   case measure=>simp [intOf];omega
  ·have d3:decide (0<i)=true:=decide_eq_true (by omega)
   have d4:decide ((0:Int)<(i:Int))=true:=decide_eq_true (by omega)
   have hi0:0<i:=by omega
   obtain ⟨b',o',c',ev,_,q1⟩:=(HV.out.later HBW.out).intAt (i-1) (by omega)
   cases ev
   have hgd:l.getD (i-1) 0=l[i-1]'(by omega):=getD_int (by omega)
   rw [hgd] at HQ
   obtain ⟨y,hy⟩:∃ y,l[i-1]'(by omega)=y:=⟨_,rfl⟩
   rw [hy] at q1 HQ
   have e1:IntKind.i64.wrap ((i:Int)-1)=(i:Int)-1:=IntWalk.i64_in _ (by omega)
   have e2:0≤(i:Int)-1:=by omega
   have e3:((i:Int)-1).toNat=i-1:=by omega
   have e4:(i:Int)-1<(l.length:Int):=by omega
   have e5:1≤(i:Int):=by omega
   clear hy hgd
   by_cases c3:x≤y
   ·have HE:=Lib.hid (risE_at hil hF.out (by rw [HQ.out,if_pos ⟨hi0,c3⟩]) (by decide:(8:Int)≠0))
    have d5:decide (x≤y)=true:=decide_eq_true c3
    clear c3
    go_wp2_with fail
    go_quiet (fail)
    have HN2:Hid (∃ n,wr.drewN nq=w.drewN n):=Lib.hid ⟨nn+nq,by rw [HNN.out];exact World.drewN_drewN _ _ _⟩
    clear e1 e2 e3 e4 e5
    go_wp2
    go_ret
    exact ⟨congrArg (fun z=>Ending.returned (.int .i64 z)) HE.out.symm,HN2.out⟩
   ·have HN0:=Lib.hid (show firstErr (risF l lo up bad) (i+1)=0 by rw [firstErr_next hF.out,HQ.out,if_neg (fun q=>c3 q.2)])
    have d5:decide (x≤y)=false:=decide_eq_false c3
    clear c3
    go_wp2_with fail
    go_quiet (fail)
    have HN2:Hid (∃ n,wr.drewN nq=w.drewN n):=Lib.hid ⟨nn+nq,by rw [HNN.out];exact World.drewN_drewN _ _ _⟩
    clear e1 e2 e3 e4 e5
    go_wp2
    go_roundw
    case rel=>exact ⟨i+1,by omega,by go_num,HN0,HN2⟩
    case measure=>simp [intOf];omega
 ·have hi2:¬ (i:Int)<(l.length:Int):=by omega
  have HE:=Lib.hid (show risE l lo up bad=0 by unfold risE;rw [show l.length=i by omega];exact hF.out)
  go_wp2
  go_ret
  exact ⟨congrArg (fun z=>Ending.returned (.int .i64 z)) HE.out.symm,_,HNN.out⟩
theorem check12_any (v1 v2 v3 v4:Value) (S:Sp) (ok:SpWk S) (fp:Nat→Value) (vk vs vc:Value) (H:Hn) (hm:HnSm H) (w:World) (hsp:SpRd w v1 v2 v3 v4 fp S) (hh:HnRd w vk vs vc H) :
  Calls Tryz.prog 33 #[.agg #[v1,v2,v3,v4],.agg #[vk,vs,vc]] w (NumR (hnE S H) w):=by
 obtain ⟨⟨a1,c1,rfl⟩,_,⟨a3,c3,rfl⟩,⟨a4,c4,rfl⟩⟩:=hsp.forms
 obtain ⟨⟨ak,ck,rfl⟩,⟨as',cs',rfl⟩,⟨ac,cc,rfl⟩⟩:=hh.forms
 have HSP:=Lib.hid hsp
 have HOK:=Lib.hid ok
 have HH:=Lib.hid hh
 have HM:=Lib.hid hm
 obtain ⟨fl,hfl⟩:∃ fl,(checkP S).1=fl:=⟨_,rfl⟩
 obtain ⟨ce,hce⟩:∃ ce,(checkP S).2=ce:=⟨_,rfl⟩
 have hcv:ckV (checkP S) = .tuple #[.agg #[.int .i64 fl.1,.int .i64 fl.2.1,.int .i64 fl.2.2],.int .i64 ce]:=by unfold ckV;rw [hfl,hce]
 have HCV:=Lib.hid hcv
 have HCE:=Lib.hid hce
 have b0:=(Blk.new w 27 #[.slice a1 S.ds.length c1,v2,.slice a3 S.ss.length c3,.slice a4 S.cs.length c4]).alloc (.cells #[.slice ak H.ks.length ck,.slice as' H.ss.length cs',.slice ac H.cs.length cc] 32)
 have b1:=Blk.new (w.alloc (.cells #[.slice a1 S.ds.length c1,v2,.slice a3 S.ss.length c3,.slice a4 S.cs.length c4] 27)) 32 #[.slice ak H.ks.length ck,.slice as' H.ss.length cs',.slice ac H.cs.length cc]
 rw [World.size_alloc] at b1
 have B0:=Lib.hid b0
 have B1:=Lib.hid b1
 have HB:=Lib.hid (below_two w (.cells #[.slice a1 S.ds.length c1,v2,.slice a3 S.ss.length c3,.slice a4 S.cs.length c4] 27) (.cells #[.slice ak H.ks.length ck,.slice as' H.ss.length cs',.slice ac H.cs.length cc] 32))
 clear hsp ok hh hcv hfl hce b0 b1 hm
 go_enter Tryz.func33,Tryz.ntmps33
 go_wp2_with fail
 generalize (w.alloc (.cells #[.slice a1 S.ds.length c1,v2,.slice a3 S.ss.length c3,.slice a4 S.cs.length c4] 27)).alloc (.cells #[.slice ak H.ks.length ck,.slice as' H.ss.length cs',.slice ac H.cs.length cc] 32)=W at *
 refine (rcheck_wk _ _ _ _ S HOK.out _ fp (HSP.out.later HB.out)).mono ?_
 rw [HCV.out]
 rintro e W1 ⟨rfl,hb1⟩
 obtain ⟨W2,hw2⟩:∃ W2,W1.alloc (.cells #[.int .i64 fl.1,.int .i64 fl.2.1,.int .i64 fl.2.2] 69)=W2:=⟨_,rfl⟩
 have hb2:Below W1.heap.size W1 W2:=by rw [← hw2];exact (Below.refl _ _).alloc (Nat.le_refl _) _
 have HB2:=Lib.hid (below_step (below_step HB.out hb1) hb2)
 have C0:=Lib.hid ((B0.out.below hb1).below hb2)
 have C1:=Lib.hid ((B1.out.below hb1).below hb2)
 clear hb1 hb2 HB B0 B1
 obtain ⟨s0,s1,s2,s3⟩:=C0.out.four
 have h0:W2.cell? ⟨w.heap.size+1,0,none⟩=some (.slice ak H.ks.length ck):=C1.out.cell 0
 by_cases hz:ce=0
 case neg =>
  have q1:(ce==0)=false:=by simpa using hz
  have q2:(ce != 0)=true:=by simpa using hz
  have HE:=Lib.hid (show hnE S H=ce by rw [hnE_bad (by rw [HCE.out];exact hz),HCE.out])
  clear hz
  go_wp2
  try rw [hw2]
  go_ret
  exact numR HE.out HB2.out
 subst hz
 by_cases hlen:H.ks.length=S.ds.length
 case neg =>
  have q3:((H.ks.length:Int)==(S.ds.length:Int))=false:=by rw [beq_eq_false_iff_ne];omega
  have HE:=Lib.hid (hnE_len HCE.out hlen)
  clear hlen
  go_wp2
  try rw [hw2]
  go_ret
  exact numR HE.out HB2.out
 have HL:=Lib.hid hlen
 have q3:((H.ks.length:Int)==(S.ds.length:Int))=true:=by rw [beq_iff_eq];omega
 have hkn:=HM.out.kn
 have hrefl:Hid (Below W2.heap.size W2 W2):=Lib.hid (Below.refl _ _)
 have HF0:Hid (firstErr (keyF S H) 0=0):=Lib.hid rfl
 clear hlen
 go_wp2
 go_loopw [7] (fun x wr=>∃ i:Nat,i≤H.ks.length∧x = .int .i64 i∧Hid (firstErr (keyF S H) i=0)∧Hid (Below W2.heap.size W2 wr)) (fun x _=>H.ks.length-(intOf x).toNat)
 case atStart=>exact ⟨0,Nat.zero_le _,rfl,HF0,hrefl⟩
 clear s0 s1 s2 s3 h0 hrefl hw2 HF0 q3
 obtain ⟨i,hi,rfl,hF,hW⟩:=hrel
 have HBW:=Lib.hid (below_step HB2.out hW.out)
 obtain ⟨s0,s1,s2,s3⟩:=(C0.out.below hW.out).four
 have hC1:=C1.out.below hW.out
 have h0:wr.cell? ⟨w.heap.size+1,0,none⟩=some (.slice ak H.ks.length ck):=hC1.cell 0
 have h1:wr.cell? ⟨w.heap.size+1,1,none⟩=some (.slice as' H.ss.length cs'):=hC1.cell 1
 have h2:wr.cell? ⟨w.heap.size+1,2,none⟩=some (.slice ac H.cs.length cc):=hC1.cell 2
 clear hC1
 by_cases hil:i<H.ks.length
 ·have hid:i<S.ds.length:=by have:=HL.out;omega
  have hi2:(i:Int)<(H.ks.length:Int):=by omega
  have hi3:(i:Int)<(S.ds.length:Int):=by omega
  obtain ⟨b,o,c,ev,hbl,r0,r1,r2⟩:=(HSP.out.later HBW.out).dAt i hid
  cases ev
  obtain ⟨b',o',c',g,ev,g0,hg⟩:=(HH.out.later HBW.out).keyAt hil
  cases ev
  have hkl:=HM.out.ks i
  have hkf:=keyF_at (H:=H) hid
  obtain ⟨KL,hKL⟩:∃ KL,H.ks.getD i []=KL:=⟨_,rfl⟩
  rw [hKL] at hg hkl hkf
  obtain ⟨av,cv,rfl⟩:=hg.intForm
  clear hKL
  have HR:=Lib.hid (fun (nn:Nat)=>rising12_any KL _ S.ds[i].lo S.ds[i].hi 7 (by decide) (wr.drewN nn) (hg.later (below_drewN (Below.refl _ _) nn)) (by omega))
  rw [← hkf] at HR
  obtain ⟨re,hre⟩:∃ re,keyF S H i=re:=⟨_,rfl⟩
  rw [hre] at HR
  have HRE:=Lib.hid hre
  obtain ⟨lo,hlo⟩:∃ lo,lo=S.ds[i].lo:=⟨_,rfl⟩
  obtain ⟨up,hup⟩:∃ up,up=S.ds[i].hi:=⟨_,rfl⟩
  rw [← hlo] at r1 HR
  rw [← hup] at r2 HR
  clear hlo hup hg hre hkl hkf
  go_wp2_with fail
  go_quiet ((go_at_call 67;exact Calls.quiet_of (HR.out _)))
  have HB3:=Lib.hid (below_drewN hW.out nq)
  by_cases hrz:re=0
  ·subst hrz
   have HN:=Lib.hid (show firstErr (keyF S H) (i+1)=0 by rw [firstErr_next hF.out,HRE.out])
   go_wp2
   go_roundw
   case rel=>exact ⟨i+1,by omega,by go_num,HN,HB3⟩
   case measure=>simp [intOf];omega
  ·have q4:(re==0)=false:=by simpa using hrz
   have q5:(re != 0)=true:=by simpa using hrz
   have HE:=Lib.hid (hnE_key HCE.out HL.out hid hF.out HRE.out hrz)
   clear hrz
   go_wp2
   go_ret
   exact numR HE.out (below_step HB2.out HB3.out)
 ·have hi2:¬ (i:Int)<(H.ks.length:Int):=by omega
  have HK:=Lib.hid (show firstErr (keyF S H) S.ds.length=0 by rw [← HL.out,show H.ks.length=i by omega];exact hF.out)
  have hl2:=HM.out.ss
  have hl3:=HM.out.cs
  obtain ⟨_,_,hl4,hl5⟩:=sp_lens HCE.out
  obtain ⟨rs,hrs⟩:∃ r,risE H.ss 0 ((S.ss.length:Int)-1) 4=r:=⟨_,rfl⟩
  obtain ⟨rc,hrc⟩:∃ r,risE H.cs 0 ((S.cs.length:Int)-1) 4=r:=⟨_,rfl⟩
  have HRS:=Lib.hid (fun (W3:World) (hb:Below W2.heap.size W2 W3)=>rising12_any H.ss _ 0 ((S.ss.length:Int)-1) 4 (by decide) W3 ((HH.out.later (below_step HB2.out hb)).stops) (by omega))
  have HRC:=Lib.hid (fun (W3:World) (hb:Below W2.heap.size W2 W3)=>rising12_any H.cs _ 0 ((S.cs.length:Int)-1) 4 (by decide) W3 ((HH.out.later (below_step HB2.out hb)).cous) (by omega))
  rw [hrs] at HRS
  rw [hrc] at HRC
  have HS:=Lib.hid hrs
  have HC:=Lib.hid hrc
  have e1:IntKind.i64.wrap ((S.ss.length:Int)-1)=(S.ss.length:Int)-1:=IntWalk.i64_in _ (by omega)
  have e2:IntKind.i64.wrap ((S.cs.length:Int)-1)=(S.cs.length:Int)-1:=IntWalk.i64_in _ (by omega)
  clear hl2 hl3 hl4 hl5 hrs hrc
  go_wp2_with fail
  refine (HRS.out wr hW.out).mono ?_
  rintro e W3 ⟨rfl,n3,rfl⟩
  have hb3:=below_drewN hW.out n3
  have HB3:=Lib.hid (below_step HB2.out hb3)
  by_cases hrz:rs=0
  ·subst hrz
   have HE:=Lib.hid ((hnE_cou HCE.out HL.out HK.out HS.out).trans HC.out)
   go_wp2_with fail
   refine (HRC.out _ hb3).mono ?_
   rintro e W4 ⟨rfl,n4,rfl⟩
   have HB4:=Lib.hid (below_drewN HB3.out n4)
   go_wp2
   go_ret
   exact numR HE.out (by have:=HB4.out;rwa [World.drewN_drewN] at this)
  ·have q4:(rs==0)=false:=by simpa using hrz
   have q5:(rs != 0)=true:=by simpa using hrz
   have HE:=Lib.hid (hnE_stop HCE.out HL.out HK.out HS.out hrz)
   clear hrz
   go_wp2
   go_ret
   exact numR HE.out HB3.out
open Go.Shelf
theorem check30_any (v1 v2 v3 v4:Value) (S:Sp) (ok:SpWk S) (fp:Nat→Value) (L:List Tl) (hsm:∀ t∈L,HnSm t.h∧t.l.length≤1000000) (tv:Value) (gk gs gc gh:Nat→Value) (w:World) (hsp:SpRd w v1 v2 v3 v4 fp S) (htv:TlRd w tv L gk gs gc gh) (hll:L.length≤1000000) :
  Calls Tryz.prog 19 #[.agg #[v1,v2,v3,v4],tv] w (NumR (trlE S L) w):=by
 obtain ⟨at',ct,ev⟩:=htv.form
 subst ev
 have HSP:=Lib.hid hsp
 have HT:=Lib.hid htv
 have HOK:=Lib.hid ok
 have HSM:=Lib.hid hsm
 obtain ⟨fl,hfl⟩:∃ fl,(checkP S).1=fl:=⟨_,rfl⟩
 obtain ⟨ce,hce⟩:∃ ce,(checkP S).2=ce:=⟨_,rfl⟩
 have hcv:ckV (checkP S) = .tuple #[.agg #[.int .i64 fl.1,.int .i64 fl.2.1,.int .i64 fl.2.2],.int .i64 ce]:=by unfold ckV;rw [hfl,hce]
 have HCE:=Lib.hid hce
 have B0:=Lib.hid (Blk.new w 27 #[v1,v2,v3,v4])
 have HB:=Lib.hid (show Below w.heap.size w (w.alloc (.cells #[v1,v2,v3,v4] 27)) from (Below.refl _ _).alloc (Nat.le_refl _) _)
 have HCK:=Lib.hid (rcheck_wk v1 v2 v3 v4 S ok _ fp (hsp.later HB.out))
 rw [hcv] at HCK
 clear hsp ok hcv hfl hce htv hsm
 go_enter Tryz.func19,Tryz.ntmps19
 go_wp2_with fail
 refine HCK.out.mono ?_
 generalize w.alloc (.cells #[v1,v2,v3,v4] 27)=W at *
 rintro e W1 ⟨rfl,hb1⟩
 clear HCK
 obtain ⟨W2,hw2⟩:∃ W2,W1.alloc (.cells #[.int .i64 fl.1,.int .i64 fl.2.1,.int .i64 fl.2.2] 69)=W2:=⟨_,rfl⟩
 have hb2:Below W1.heap.size W1 W2:=by rw [← hw2];exact (Below.refl _ _).alloc (Nat.le_refl _) _
 have HB2:=Lib.hid (below_step (below_step HB.out hb1) hb2)
 have C0:=Lib.hid ((B0.out.below hb1).below hb2)
 clear hb1 hb2 HB B0
 by_cases hz:ce=0
 case neg =>
  have q1:(ce==0)=false:=by simpa using hz
  have q2:(ce != 0)=true:=by simpa using hz
  have HE:=Lib.hid (show trlE S L=ce by rw [trlE_bad (by rw [HCE.out];exact hz),HCE.out])
  clear hz
  go_wp2
  try rw [hw2]
  go_ret
  exact numR HE.out HB2.out
 subst hz
 by_cases hlen:20<L.length
 ·have d1:decide (20<L.length)=true:=decide_eq_true hlen
  have d2:decide ((20:Int)<(L.length:Int))=true:=decide_eq_true (by omega)
  have HE:=Lib.hid (trlE_long HCE.out hlen)
  clear hlen
  go_wp2
  try rw [hw2]
  go_ret
  exact numR HE.out HB2.out
 have d1:decide (20<L.length)=false:=decide_eq_false hlen
 have d2:decide ((20:Int)<(L.length:Int))=false:=decide_eq_false (by omega)
 have HL:=Lib.hid hlen
 clear hlen
 have HF0:Hid (firstErr (tlF S L) 0=0):=Lib.hid rfl
 go_wp2
 try rw [hw2]
 clear d1 d2 hw2
 go_loopw [7] (fun x wr=>∃ i:Nat,i≤L.length∧x = .int .i64 i∧Hid (firstErr (tlF S L) i=0)∧Hid (Below w.heap.size w wr)∧Hid (Blk wr w.heap.size 27 #[v1,v2,v3,v4])) (fun x _=>L.length-(intOf x).toNat)
 case atStart=>exact ⟨0,Nat.zero_le _,rfl,HF0,HB2,C0⟩
 clear HF0 HB2 C0
 obtain ⟨i,hi,rfl,hF0,hB,hC⟩:=hrel
 by_cases hil:i<L.length
 ·have hi2:(i:Int)<(L.length:Int):=by omega
  obtain ⟨b,o,c',ev,hbl,q0,q1,q2,q3⟩:=(HT.out.later hB.out).at' hil
  cases ev
  have HAT:=Lib.hid (fun (e:Int) (he:tlF S L i=e) (hne:e≠0)=>trlE_at HCE.out HL.out hil hF0.out he hne)
  have HTF:=Lib.hid (tlF_at (S:=S) hil)
  have HNX:=Lib.hid (fun (h:tlF S L i=0)=>show firstErr (tlF S L) (i+1)=0 from (firstErr_next hF0.out).trans h)
  obtain ⟨hs1,hs2⟩:=HSM.out _ (List.getElem_mem hil)
  have HCH:=Lib.hid (fun (W:World) (hb:Below w.heap.size w W)=>check12_any v1 v2 v3 v4 S HOK.out fp (gk i) (gs i) (gc i) L[i].h hs1 W (HSP.out.later hb) ((HT.out.later hb).hd i hil))
  have HPI:=Lib.hid (fun (W:World) (hb:Below w.heap.size w W)=>pipes30_any v1 v2 v3 v4 S HCE.out fp L[i].l (gh i) W (HSP.out.later hb) hs2 ((HT.out.later hb).pp i hil))
  obtain ⟨⟨ka,kc,ek⟩,⟨sa,sc,es⟩,⟨ca,cc,ec⟩⟩:=((HT.out.later hB.out).hd i hil).forms
  obtain ⟨pa,pc,ep⟩:=((HT.out.later hB.out).pp i hil).form
  rw [List.length_map] at ep
  rw [ek] at q0 HCH
  rw [es] at q1 HCH
  rw [ec] at q2 HCH
  rw [ep] at q3 HPI
  obtain ⟨x,hx⟩:∃ x,L[i]=x:=⟨_,rfl⟩
  rw [hx] at HTF HCH HPI q0 q1 q2 q3
  rw [show hnE S x.h=hndE S x.h from by unfold hnE;rw [if_neg (by rw [HCE.out];simp)]] at HCH
  obtain ⟨s0,s1,s2,s3⟩:=hC.out.four
  have hdr:=hc7 (W:=wr) (w:=w) ⟨hB.out,s0,s1,s2,s3,q0,q1,q2⟩ (show Below wr.heap.size wr wr.drew from (Below.refl _ _).drew)
  have HD3:=Lib.hid ((Below.refl wr.heap.size wr).drew.cell (cell_size q3) |>.trans q3)
  have HKD:=Lib.hid (hC.out.below (show Below wr.heap.size wr wr.drew from (Below.refl _ _).drew))
  clear hx hs1 hs2 ek es ec ep s0 s1 s2 s3 q0 q1 q2 q3 hF0
  go_upto_region 9 with fail
  go_region_held3 (fun w'=>Below w.heap.size w w'∧w'.cell? ⟨w.heap.size,0,none⟩=some v1∧w'.cell? ⟨w.heap.size,1,none⟩=some v2∧w'.cell? ⟨w.heap.size,2,none⟩=some v3∧w'.cell? ⟨w.heap.size,3,none⟩=some v4∧w'.cell? ⟨b,o+i * 4,none⟩=some (.slice ka x.h.ks.length kc)∧w'.cell? ⟨b,o+i * 4+1,none⟩=some (.slice sa x.h.ss.length sc)∧w'.cell? ⟨b,o+i * 4+2,none⟩=some (.slice ca x.h.cs.length cc)) (first | exact hdr | assumption | fail) (first | (go_at_call 33;(with_reducible refine (HCH.out _ hdr.1).mono ?_);rintro e W5 ⟨rfl,hb5⟩;have hn:=hc7 hdr hb5;have HB5:=Lib.hid hn.1;have K5:=Lib.hid (HKD.out.below hb5);have HD5:=Lib.hid ((hb5.cell (cell_size HD3.out)).trans HD3.out);clear hb5) | fail)
  clear hdr hn HD3 HKD hB hC HCH
  obtain ⟨he,hhe⟩:∃ he,hndE S x.h=he:=⟨_,rfl⟩
  rw [hhe] at HTF ⊢
  clear hhe
  by_cases hez:he=0
  case neg =>
   have f1:(he==0)=false:=by simpa using hez
   have f2:(he != 0)=true:=by simpa using hez
   have HE:=Lib.hid (HAT.out he (HTF.out.trans (if_pos hez)) hez)
   clear hez
   go_wp2
   go_ret
   exact numR HE.out HB5.out
  subst hez
  have HTF2:=Lib.hid (HTF.out.trans (if_neg (by simp)))
  clear HTF
  obtain ⟨s0,s1,s2,s3⟩:=K5.out.four
  have hdr:=hc5 (W:=W5) (w:=w) ⟨HB5.out,s0,s1,s2,s3,HD5.out⟩ (show Below W5.heap.size W5 W5.drew from (Below.refl _ _).drew)
  have HKD:=Lib.hid (K5.out.below (show Below W5.heap.size W5 W5.drew from (Below.refl _ _).drew))
  clear s0 s1 s2 s3
  go_upto_region 12 with fail
  go_region_held3 (fun w'=>Below w.heap.size w w'∧w'.cell? ⟨w.heap.size,0,none⟩=some v1∧w'.cell? ⟨w.heap.size,1,none⟩=some v2∧w'.cell? ⟨w.heap.size,2,none⟩=some v3∧w'.cell? ⟨w.heap.size,3,none⟩=some v4∧w'.cell? ⟨b,o+i * 4+3,none⟩=some (.slice pa x.l.length pc)) (first | exact hdr | assumption | fail) (first | (go_at_call 46;(with_reducible refine (HPI.out _ hdr.1).mono ?_);rintro e W6 ⟨rfl,hb6⟩;have hn:=hc5 hdr hb6;have HB6:=Lib.hid hn.1;have K6:=Lib.hid (HKD.out.below hb6);clear hb6) | fail)
  clear hdr hn HD5 HKD HB5 K5 HPI
  cases hpb:pipB S x.l with
  | false =>
   have HE:=Lib.hid (HAT.out 2 (HTF2.out.trans (if_neg (by rw [hpb];decide))) (by decide))
   clear hpb
   go_wp2
   go_ret
   exact numR HE.out HB6.out
  | true =>
   have HN2:=Lib.hid (HNX.out (HTF2.out.trans (if_pos hpb)))
   clear hpb
   go_wp2
   go_roundw
   case rel=>exact ⟨i+1,by omega,by go_num,HN2,HB6,K6⟩
   case measure=>simp [intOf];omega
 ·have hi2:¬ (i:Int)<(L.length:Int):=by omega
  have hie:i=L.length:=by omega
  have HE:=Lib.hid (show trlE S L=0 by rw [trlE_in HCE.out HL.out,← hie];exact hF0.out)
  clear hie
  go_wp2
  go_ret
  exact numR HE.out hB.out
theorem hnE_ok {S:Sp} (hc:(checkP S).2=0) {H:Hn} (h:hnE S H=0):HnOk S H:=hnd_ok hc (by unfold hnE at h;rw [if_neg (by omega)] at h;exact h)
end Go.Proofs.YteflhbfgpknabaaGreatDoor
namespace Go.Proofs.YteflhbfgpknabaaGreatDoor
open Go.RowKit
section
variable {κ : Type} [DecidableEq κ]
def setU (m:List κ):List (κ × Value):=m.map fun x=>(x,Value.agg #[])
omit [DecidableEq κ] in
theorem setU_keys (m:List κ):(setU m).map (·.1)=m:=by unfold setU;rw [List.map_map];exact List.map_id m
theorem mget_setU (x:κ):∀ m:List κ,mget x (setU m)=if x∈m then some (.agg #[]) else none
 | []=>rfl
 | k :: m=>by
  have ih:=mget_setU x m
  unfold setU at ih ⊢
  rw [List.map_cons,mget]
  by_cases h:x=k
  ·subst h;rw [if_pos rfl,if_pos List.mem_cons_self]
  ·rw [if_neg h,ih]
   by_cases h2:x∈m
   ·rw [if_pos h2,if_pos (List.mem_cons_of_mem _ h2)]
   ·rw [if_neg h2,if_neg (fun q=>(List.mem_cons.1 q).elim h h2)]
theorem mget_setU_some (x:κ) (m:List κ):(mget x (setU m)).isSome=decide (x∈m)∧(mget x (setU m)).getD (.agg #[]) = .agg #[]:=by
 rw [mget_setU]
 by_cases h:x∈m
 ·rw [if_pos h,decide_eq_true h];exact ⟨rfl,rfl⟩
 ·rw [if_neg h,decide_eq_false h];exact ⟨rfl,rfl⟩
theorem mput_setU {x:κ} {m:List κ} (h:x ∉ m):mput x (.agg #[]) (setU m)=setU (m++[x]):=by
 rw [mput_none _ (mget_no.2 (by rw [setU_keys];exact h))]
 simp [setU]
theorem mdel_setU (x:κ):∀ m:List κ,m.Nodup→mdel x (setU m)=setU (m.filter fun y=>!decide (y=x))
 | [],_=>rfl
 | k :: m,hn=>by
  rw [List.nodup_cons] at hn
  have ih:=mdel_setU x m hn.2
  unfold setU at ih ⊢
  rw [List.map_cons,mdel]
  by_cases h:x=k
  ·subst h
   rw [if_pos rfl,List.filter_cons_of_neg (by simp)]
   congr 1
   symm
   rw [List.filter_eq_self]
   intro y hy
   simp only [Bool.not_eq_true',decide_eq_false_iff_not]
   rintro rfl
   exact hn.1 hy
  ·rw [if_neg h,List.filter_cons_of_pos (by simp only [Bool.not_eq_true',decide_eq_false_iff_not];exact fun q=>h q.symm),List.map_cons,ih]
end
open Go.Shelf
def DifE (S:Sp) (B:(Th→Int)→Pp→Bool) (F:List Ft) (L:List Tl) (w:World) (e:Ending) (w':World):Prop:=∃ (n:Int) (p:Pp),e = .returned (.tuple #[.int .i64 n,.agg #[.int .i64 p.1,.int .i64 p.2]])∧n=failI S B F L∧(0≤n→∃ t∈L,p∈allFrom 0 S.rs∧hearB B F (onH t.h) p≠decide (p∈t.l))∧Below w.heap.size w w'
theorem badB_at {S:Sp} {B:(Th→Int)→Pp→Bool} {F:List Ft} {L:List Tl} {i:Nat} (hi:i<L.length):badB S B F L i=!decide (hearL S B F (onH L[i].h)=L[i].l):=by
 unfold badB
 rw [List.getElem?_eq_getElem hi]
theorem failI_here {S:Sp} {B:(Th→Int)→Pp→Bool} {F:List Ft} {L:List Tl} {i:Nat} (hi:i<L.length) (h0:∀ j,j<i→badB S B F L j=false) (h:hearL S B F (onH L[i].h)≠L[i].l):failI S B F L=i :=
 fstI_at h0 (by rw [badB_at hi,decide_eq_false h];rfl) hi
theorem failI_end {S:Sp} {B:(Th→Int)→Pp→Bool} {F:List Ft} {L:List Tl} (h0:∀ j,j<L.length→badB S B F L j=false):failI S B F L = -1:=fstI_none.2 h0
theorem hear_more {S:Sp} {B:(Th→Int)→Pp→Bool} {F:List Ft} {f:Th→Int} {l:List Pp} {p:Pp} (hp:p∈l) (ha:p∈allFrom 0 S.rs) (hn:p ∉ hearL S B F f):hearB B F f p≠decide (p∈l)∧hearL S B F f≠l:=by
 refine ⟨fun h=>hn ?_,fun h=>hn (by rw [h];exact hp)⟩
 rw [decide_eq_true hp] at h
 exact List.mem_filter.2 ⟨ha,h⟩
theorem hear_less {S:Sp} {B:(Th→Int)→Pp→Bool} {F:List Ft} {f:Th→Int} {l:List Pp} {p:Pp} (hp:p ∉ l) (hm:p∈hearL S B F f):p∈allFrom 0 S.rs∧hearB B F f p≠decide (p∈l)∧hearL S B F f≠l:=by
 obtain ⟨h1,h2⟩:=List.mem_filter.1 hm
 refine ⟨h1,?_,fun h=>hp (by rw [← h];exact hm)⟩
 rw [decide_eq_false hp,h2]
 decide
def lftD (m l:List Pp) (k:Nat):List Pp:=m.filter fun p=>!decide (p∈l.take k)
theorem lftD_zero (m l:List Pp):lftD m l 0=m:=by unfold lftD;rw [List.filter_eq_self];intro p _;simp
theorem lftD_next {m l:List Pp} {k:Nat} (hk:k<l.length):(lftD m l k).filter (fun y=>!decide (y=l[k]))=lftD m l (k+1):=by
 unfold lftD
 rw [List.filter_filter]
 refine List.filter_congr fun p _=>?_
 have hm:(p∈l.take (k+1))↔(p∈l.take k∨p=l[k]):=by rw [List.take_succ_eq_append_getElem hk,List.mem_append,List.mem_singleton]
 by_cases h1:p∈l.take k
 ·rw [decide_eq_true h1,decide_eq_true (hm.2 (.inl h1)),Bool.not_true,Bool.and_false]
 ·by_cases h2:p=l[k]
  ·rw [decide_eq_true h2,decide_eq_true (hm.2 (.inr h2)),Bool.not_true,Bool.false_and]
  ·rw [decide_eq_false h1,decide_eq_false h2,decide_eq_false (fun h=>(hm.1 h).elim h1 h2)];rfl
theorem lftD_mem {m l:List Pp} {k:Nat} (hk:k<l.length) (hl:l.Pairwise ppLt):l[k]∈lftD m l k↔l[k]∈m:=by
 unfold lftD
 rw [List.mem_filter]
 refine ⟨fun h=>h.1,fun h=>⟨h,?_⟩⟩
 rw [Bool.not_eq_true',decide_eq_false_iff_not]
 intro h2
 obtain ⟨j,hj,e⟩:=List.getElem_of_mem h2
 rw [List.length_take] at hj
 rw [List.getElem_take] at e
 have:=List.pairwise_iff_getElem.1 hl j k (by omega) hk (by omega)
 rw [e] at this
 unfold ppLt at this
 omega
theorem lftD_all {m l:List Pp} {p:Pp}:p∈lftD m l l.length↔p∈m∧p ∉ l:=by
 unfold lftD
 rw [List.mem_filter,List.take_length,Bool.not_eq_true',decide_eq_false_iff_not]
theorem pps_len {l m:List Pp} (hl:l.Pairwise ppLt) (hm:m.Pairwise ppLt) (h:∀ p∈l,p∈m):l.length≤m.length:=by
 have e:l=m.filter fun p=>decide (p∈l):=asc_ext hl (hm.filter _) fun p=>by rw [List.mem_filter,decide_eq_true_iff];exact ⟨fun q=>⟨h p q,q⟩,fun q=>q.2⟩
 rw [e]
 exact List.length_filter_le _ _
theorem pps_nodup {l:List Pp} (h:l.Pairwise ppLt):l.Nodup:=h.imp fun {a b} h e=>by subst e;unfold ppLt at h;omega
theorem lftD_nodup {m:List Pp} (h:m.Pairwise ppLt) (l':List Pp) (k:Nat):(lftD m l' k).Nodup:=(pps_nodup h).filter _
theorem results_tmp_cell {fn:Func} {p u:Tmp} {ty:TypeId} (h:fn.results=#[.tmp u,.cell p ty]) (tmps:Array Value) (P:Program) (w:World) :
  (results fn tmps).run P w=((asAddr (tmps.getD p undef)).run P w).andThen fun a w₁=>((loadVar ty a).run P w₁).andThen fun v w₂ => .ok (.tuple #[tmps.getD u undef,v]) w₂:=by
 simp only [results,h]
 simp [Sem.run_bind,Result.andThen]
theorem results_tmp_row {P:Program} {fn:Func} {p u:Tmp} {ty:TypeId} (h:fn.results=#[.tmp u,.cell p ty]) (tmps:Array Value) (w:World) (g:Nat) (t:TypeId) (cs:Array Value) (fr:Nat × Nat) (d:TypeDesc)
  (hp:tmps.getD p undef = .pointer (some ⟨g,0,none⟩)) (hg:w.heap[g]?=some (.cells cs t fr))
  (hu:P.underlying ty=some d) (hd:(match d with | .struct _ | .array _ _=>true | _=>false)=true) (hi:(P.info? ty).map (·.size)=some cs.size) :
  (results fn tmps).run P w = .ok (.tuple #[tmps.getD u undef,.agg cs]) w:=by
 have hp':tmps[p]?.getD undef = .pointer (some ⟨g,0,none⟩):=by simpa using hp
 rw [results_tmp_cell h]
 simp [hp',asAddr,run_loadVar_row w g t ty cs fr d hg hu hd hi,Result.andThen]
theorem pp_size2 {n:Nat} (h:n=2):(Tryz.prog.info? 78).map (·.size)=some n:=by subst h;kernel_rfl
structure DfW (w:World) (X:Nat) (v1 v2 v3 v4:Value) (tc:Array Value) (D:List Pp) (W:World):Prop where
 b:Below w.heap.size w W
 sp:Blk W w.heap.size 27 #[v1,v2,v3,v4]
 rs:Blk W (w.heap.size+1) 78 #[.int .i64 0,.int .i64 0]
 tr:Blk W X 58 tc
 mp:Mp ekP W (X+1) (setU D)
 lt:w.heap.size<X
theorem DfW.later {w W W':World} {X:Nat} {v1 v2 v3 v4:Value} {tc:Array Value} {D:List Pp} (h:DfW w X v1 v2 v3 v4 tc D W) (hb:Below W.heap.size W W'):DfW w X v1 v2 v3 v4 tc D W':=⟨below_step h.b hb,h.sp.below hb,h.rs.below hb,h.tr.below hb,h.mp.below hb,h.lt⟩
theorem mp_blk_ne {κ:Type} {ek:κ→Value} {W:World} {b B:Nat} {l:List (κ × Value)} {t:TypeId} {cs:Array Value} (h:Mp ek W b l) (hb:Blk W B t cs):b≠B:=by
 rintro rfl
 obtain ⟨es,clock,h1,_⟩:=h
 rw [show W.heap[b]?=_ from hb] at h1
 cases h1
theorem rg_blk_ne {κ:Type} {ek:κ→Value} {W:World} {b r B:Nat} {l left:List (κ × Value)} {t:TypeId} {cs:Array Value} (h:Rg ek W b r l left) (hb:Blk W B t cs):r≠B:=by
 rintro rfl
 obtain ⟨es,clock,since,seen,c0,h1,h2,h3,h4,h5,h6,h7,h8⟩:=h
 have hb':W.heap[r]?=_:=hb
 simp_all
theorem mp_not {κ:Type} {ek:κ→Value} {W:World} {b:Nat} {l:List (κ × Value)} (h:Mp ek W b l):∀ r,some b=some r→∃ o:Obj,W.heap[r]?=some o∧o.isCells=false:=by
 rintro r e
 cases e
 obtain ⟨es,clock,h1,_⟩:=h
 exact ⟨_,h1,rfl⟩
theorem DfW.upd {w W W':World} {X:Nat} {v1 v2 v3 v4:Value} {tc:Array Value} {D D':List Pp} (h:DfW w X v1 v2 v3 v4 tc D W) (hm:Mp ekP W' (X+1) (setU D')) (hg:W.grownBy W' (some (X+1))):DfW w X v1 v2 v3 v4 tc D' W' :=
 ⟨h.b.grown hg h.b.size (fun k e=>by cases e;have:=h.lt;omega),h.sp.grown hg (fun e=>mp_blk_ne h.mp h.sp (Option.some.inj e)),h.rs.grown hg (fun e=>mp_blk_ne h.mp h.rs (Option.some.inj e)),h.tr.grown hg (fun e=>mp_blk_ne h.mp h.tr (Option.some.inj e)),hm,h.lt⟩
theorem differs_any (v1 v2 v3 v4:Value) (S:Sp) (ok:SpWk S) (hc:(checkP S).2=0) (fp:Nat→Value) (fv:Value) (F:List Ft) (hF:FtsOk S F) (hFl:F.length≤10) (L:List Tl) (hL:∀ t∈L,HnOk S t.h∧t.l.Pairwise ppLt∧∀ p∈t.l,p∈allFrom 0 S.rs) (hll:L.length≤1000000) (tv:Value) (gk gs gc gh:Nat→Value) (B:(Th→Int)→Pp→Bool) (hB:SndIs S B) (w:World) (hD:Deb w) (ht:Tabs w) (hsp:SpRd w v1 v2 v3 v4 fp S) (hcap:∀ i,i<S.ss.length→CapOk (fp i)) (htv:TlRd w tv L gk gs gc gh) (hfv:ARd w fv 3 (F.map ftC)) :
  Calls Tryz.prog 39 #[.agg #[v1,v2,v3,v4],fv,tv] w (DifE S B F L w):=by
 obtain ⟨at',ct,ev⟩:=htv.form
 subst ev
 obtain ⟨af,cf,ev⟩:=hfv.ftForm
 subst ev
 have HT:=Lib.hid htv
 have HLL:=Lib.hid hL
 have HHE:=Lib.hid (fun (i:Nat) (hi:i<L.length) (W:World) (hb:Below w.heap.size w W)=>hearsD_any v1 v2 v3 v4 S ok hc fp (gk i) (gs i) (gc i) (.slice af F.length cf) L[i].h (hL _ (List.getElem_mem hi)).1 F hF hFl B hB W (hD.below hb) (ht.below hb) (hsp.later hb) hcap ((htv.later hb).hd i hi) (hfv.later hb))
 have HLN:=Lib.hid (show ∀ f,(hearL S B F f).length≤4000 from fun f=>Nat.le_trans (List.length_filter_le _ _) (by
  have h1:=allFrom_len (spGood hc).r 0
  have h2:=sp_lens hc
  omega))
 have HAL:=Lib.hid (show (allFrom 0 S.rs).length≤4000 from by
  have h1:=allFrom_len (spGood hc).r 0
  have h2:=sp_lens hc
  omega)
 have HB0:=Lib.hid (below_two w (.cells #[v1,v2,v3,v4] 27) (.cells #[.int .i64 0,.int .i64 0] 78))
 have K0:=Lib.hid ((Blk.new w 27 #[v1,v2,v3,v4]).alloc (.cells #[.int .i64 0,.int .i64 0] 78))
 have k1:=Blk.new (w.alloc (.cells #[v1,v2,v3,v4] 27)) 78 #[.int .i64 0,.int .i64 0]
 rw [World.size_alloc] at k1
 have K1:=Lib.hid k1
 have HN0:=Lib.hid (show ∀ j,j<0→badB S B F L j=false from fun j h=>absurd h (Nat.not_lt_zero _))
 clear k1 htv hL ok hc hF hFl hB hD ht hsp hcap hfv
 have hmm:=@run_makeMap Tryz.prog
 go_enter Tryz.func39,Tryz.ntmps39
 go_wp2
 generalize (w.alloc (.cells #[v1,v2,v3,v4] 27)).alloc (.cells #[.int .i64 0,.int .i64 0] 78)=W0 at *
 go_loopw [20] (fun x wr=>∃ i:Nat,i≤L.length∧x = .int .i64 i∧Hid (∀ j,j<i→badB S B F L j=false)∧Hid (Below w.heap.size w wr)∧Hid (Blk wr w.heap.size 27 #[v1,v2,v3,v4])∧Hid (Blk wr (w.heap.size+1) 78 #[.int .i64 0,.int .i64 0])) (fun x _=>L.length-(intOf x).toNat)
 case atStart=>exact ⟨0,Nat.zero_le _,rfl,HN0,HB0,K0,K1⟩
 clear HN0 HB0 K0 K1
 obtain ⟨i,hi,rfl,hN,hB,hK,hR⟩:=hrel
 by_cases hil:i<L.length
 ·have hi2:(i:Int)<(L.length:Int):=by omega
  obtain ⟨b,o,c',ev,hbl,q0,q1,q2,q3⟩:=(HT.out.later hB.out).at' hil
  cases ev
  obtain ⟨_,hlp,hla⟩:=HLL.out _ (List.getElem_mem hil)
  have HTH:=Lib.hid (fun (W:World) (hb:Below w.heap.size w W)=>(HT.out.later hb).pp i hil)
  have HCH:=Lib.hid (HHE.out i hil)
  obtain ⟨⟨ka,kc,ek⟩,⟨sa,sc,es⟩,⟨ca,cc,ec⟩⟩:=((HT.out.later hB.out).hd i hil).forms
  obtain ⟨pa,pc,ep⟩:=((HT.out.later hB.out).pp i hil).form
  rw [List.length_map] at ep
  have HFE:=Lib.hid (fun (h:hearL S B F (onH L[i].h)≠L[i].l)=>failI_here hil hN.out h)
  have HNX:=Lib.hid (fun (h:hearL S B F (onH L[i].h)=L[i].l)=>show ∀ j,j<i+1→badB S B F L j=false from fun j hj=>by
   by_cases e:j=i
   ·subst e;rw [badB_at hil,decide_eq_true h];rfl
   ·exact hN.out j (by omega))
  have HTM:=Lib.hid (List.getElem_mem hil)
  rw [ek] at q0 HCH
  rw [es] at q1 HCH
  rw [ec] at q2 HCH
  rw [ep] at q3 HTH
  obtain ⟨x,hx⟩:∃ x,L[i]=x:=⟨_,rfl⟩
  rw [hx] at HTH HCH HFE HNX HTM q0 q1 q2 q3 hlp hla
  have hxl:x.l.length≤4000:=Nat.le_trans (pps_len hlp (asc_allFrom 0 S.rs) hla) HAL.out
  have HLP:=Lib.hid hlp
  have HLA:=Lib.hid hla
  have hml:=HLN.out (onH x.h)
  have HMP:=Lib.hid (hearL_asc S B F (onH x.h)).1
  have HMO:=Lib.hid (fun (p:Pp) (h1:p∈x.l) (h2:p ∉ hearL S B F (onH x.h))=>hear_more (B:=B) (F:=F) (f:=onH x.h) h1 (hla p h1) h2)
  have HLE:=Lib.hid (fun (p:Pp) (h1:p ∉ x.l) (h2:p∈hearL S B F (onH x.h))=>hear_less (S:=S) (B:=B) (F:=F) (f:=onH x.h) h1 h2)
  obtain ⟨m,hm⟩:∃ m,hearL S B F (onH x.h)=m:=⟨_,rfl⟩
  rw [hm] at HCH HFE HNX hml HMP HMO HLE
  clear hx hm ek es ec ep hlp hla hN
  go_upto_region 5 with fail
  have hba:Below wr.heap.size wr (wr.alloc (.cells #[.slice ka x.h.ks.length kc,.slice sa x.h.ss.length sc,.slice ca x.h.cs.length cc,.slice pa x.l.length pc] 58)):=(Below.refl _ wr).alloc (Nat.le_refl _) _
  have hbm:Below wr.heap.size wr ((wr.alloc (.cells #[.slice ka x.h.ks.length kc,.slice sa x.h.ss.length sc,.slice ca x.h.cs.length cc,.slice pa x.l.length pc] 58)).alloc (.map #[] 0)):=hba.alloc (by simp) _
  have hmade:Mp ekP ((wr.alloc (.cells #[.slice ka x.h.ks.length kc,.slice sa x.h.ss.length sc,.slice ca x.h.cs.length cc,.slice pa x.l.length pc] 58)).alloc (.map #[] 0)) (wr.heap.size+1) (setU []):=by
   have:=Mp.made (ek:=ekP) (wr.alloc (.cells #[.slice ka x.h.ks.length kc,.slice sa x.h.ss.length sc,.slice ca x.h.cs.length cc,.slice pa x.l.length pc] 58))
   rw [World.size_alloc] at this
   exact this
  have HW:=Lib.hid (show DfW w wr.heap.size v1 v2 v3 v4 #[.slice ka x.h.ks.length kc,.slice sa x.h.ss.length sc,.slice ca x.h.cs.length cc,.slice pa x.l.length pc] [] _ from ⟨below_step hB.out hbm,hK.out.below hbm,hR.out.below hbm,(Blk.new wr 58 #[.slice ka x.h.ks.length kc,.slice sa x.h.ss.length sc,.slice ca x.h.cs.length cc,.slice pa x.l.length pc]).alloc _,hmade,hK.out.lt⟩)
  obtain ⟨X,hX⟩:∃ X,wr.heap.size=X:=⟨_,rfl⟩
  rw [hX] at HW ⊢
  generalize (wr.alloc (.cells #[.slice ka x.h.ks.length kc,.slice sa x.h.ss.length sc,.slice ca x.h.cs.length cc,.slice pa x.l.length pc] 58)).alloc (.map #[] 0)=W5 at *
  have HBX:=Lib.hid hB.out
  clear hba hbm hmade hX hB hK hR q0 q1 q2 q3
  obtain ⟨s0,s1,s2,s3⟩:=HW.out.sp.four
  obtain ⟨y0,y1,y2⟩:W5.cell? ⟨X,0,none⟩=some (.slice ka x.h.ks.length kc)∧W5.cell? ⟨X,1,none⟩=some (.slice sa x.h.ss.length sc)∧W5.cell? ⟨X,2,none⟩=some (.slice ca x.h.cs.length cc):=⟨HW.out.tr.cell 0,HW.out.tr.cell 1,HW.out.tr.cell 2⟩
  go_wp2_with fail
  refine (HCH.out W5 HW.out.b).mono ?_
  rintro e W6 ⟨u,rfl,hrow,hb6⟩
  have HR6:=Lib.hid (row_base hrow HW.out.b.size)
  obtain ⟨ua,un,rfl⟩:=own_form hrow
  have HW6:=Lib.hid (show DfW w X v1 v2 v3 v4 #[.slice ka x.h.ks.length kc,.slice sa x.h.ss.length sc,.slice ca x.h.cs.length cc,.slice pa x.l.length pc] (m.take 0) W6 from HW.out.later hb6)
  clear hrow hb6 HW HCH s0 s1 s2 s3 y0 y1 y2
  go_wp2
  go_loopw [32] (fun v wr=>∃ k:Nat,k≤m.length∧v = .int .i64 k∧Hid (DfW w X v1 v2 v3 v4 #[.slice ka x.h.ks.length kc,.slice sa x.h.ss.length sc,.slice ca x.h.cs.length cc,.slice pa x.l.length pc] (m.take k) wr)∧Hid (wr.ownsRow w.heap.size 78 2 (.slice ua m.length un) m.length (ppCs m))) (fun v _=>m.length-(intOf v).toNat)
  case atStart=>exact ⟨0,Nat.zero_le _,rfl,HW6,HR6⟩
  clear HW6 HR6
  obtain ⟨k,hk,rfl,hW,hRr⟩:=hrel
  by_cases hkl:k<m.length
  ·have hk2:(k:Int)<(m.length:Int):=by omega
   obtain ⟨b,o,c',ev,hbl2,p0,p1⟩:=(ARd.of_pps hRr.out).ppAt k hkl
   cases ev
   have HNI:=Lib.hid (show m[k] ∉ m.take k from fun h=>by
    obtain ⟨j,hj,e⟩:=List.getElem_of_mem h
    rw [List.length_take] at hj
    rw [List.getElem_take] at e
    have:=List.pairwise_iff_getElem.1 HMP.out j k (by omega) hkl (by omega)
    rw [e] at this
    unfold ppLt at this
    omega)
   have HTK:=Lib.hid (List.take_succ_eq_append_getElem hkl)
   obtain ⟨p,hp⟩:∃ p,m[k]=p:=⟨_,rfl⟩
   rw [hp] at p0 p1 HNI HTK
   obtain ⟨a1,a2⟩:=p
   simp only at p0 p1
   have hb7:Below wr.heap.size wr (wr.alloc (.cells #[.int .i64 a1,.int .i64 a2] 78)):=(Below.refl _ wr).alloc (Nat.le_refl _) _
   have HW7:=Lib.hid (hW.out.later hb7)
   have HR7:=Lib.hid (row_later hRr.out hb7)
   have hmp:=HW7.out.mp
   clear hp hbl2 hb7 hW hRr
   go_wp2_with (at_mapUpdate;refine wpList_update_mp _ rfl _ _ _ 129 rfl 114 pp_keys Tryz.underlying129 rfl hmp (a1,a2) (.agg #[]) rfl rfl ?_;intro W8 hm8 hg8 hs8)
   rw [mput_setU HNI.out,← HTK.out] at hm8
   have HW8:=Lib.hid (HW7.out.upd hm8 hg8)
   have HR8:=Lib.hid (owns_kept HR7.out hg8 (mp_not hmp))
   clear hm8 hg8 hs8 hmp
   refine ⟨⟨k+1,by omega,by go_num,HW8,HR8⟩,?_⟩
   simp [intOf]
   omega
  have hk2:¬ (k:Int)<(m.length:Int):=by omega
  have hke:k=m.length:=by omega
  rw [hke,List.take_length] at hW
  have HW9:=Lib.hid (show DfW w X v1 v2 v3 v4 #[.slice ka x.h.ks.length kc,.slice sa x.h.ss.length sc,.slice ca x.h.cs.length cc,.slice pa x.l.length pc] (lftD m x.l 0) wr from by rw [lftD_zero];exact hW.out)
  have HI0:=Lib.hid (show ∀ j (hj:j<x.l.length),j<0→x.l[j]∈m from fun j hj h=>absurd h (Nat.not_lt_zero _))
  have y3:wr.cell? ⟨X,3,none⟩=some (.slice pa x.l.length pc):=hW.out.tr.cell 3
  clear hke hW hRr
  go_wp2
  clear y3
  go_loopw [43] (fun v wr=>∃ k:Nat,k≤x.l.length∧v = .int .i64 k∧Hid (∀ j (hj:j<x.l.length),j<k→x.l[j]∈m)∧Hid (DfW w X v1 v2 v3 v4 #[.slice ka x.h.ks.length kc,.slice sa x.h.ss.length sc,.slice ca x.h.cs.length cc,.slice pa x.l.length pc] (lftD m x.l k) wr)) (fun v _=>x.l.length-(intOf v).toNat)
  case atStart=>exact ⟨0,Nat.zero_le _,rfl,HI0,HW9⟩
  clear HI0 HW9
  obtain ⟨k,hk,rfl,hI,hW⟩:=hrel
  by_cases hkl:k<x.l.length
  ·have hk2:(k:Int)<(x.l.length:Int):=by omega
   obtain ⟨b,o,c',ev,hbl2,p0,p1⟩:=(HTH.out wr hW.out.b).ppAt k hkl
   cases ev
   have HLM:=Lib.hid (lftD_mem (m:=m) hkl HLP.out)
   have HLX:=Lib.hid (lftD_next (m:=m) hkl)
   have HIN:=Lib.hid (fun (h:x.l[k]∈m)=>show ∀ j (hj:j<x.l.length),j<k+1→x.l[j]∈m from fun j hj hjk=>by
    by_cases e:j=k
    ·subst e;exact h
    ·exact hI.out j hj (by omega))
   have HMK:=Lib.hid (fun (h:x.l[k] ∉ m)=>HMO.out _ (List.getElem_mem hkl) h)
   have HPA:=Lib.hid (HLA.out _ (List.getElem_mem hkl))
   obtain ⟨p,hp⟩:∃ p,x.l[k]=p:=⟨_,rfl⟩
   rw [hp] at p0 p1 HLM HLX HIN HMK HPA
   obtain ⟨a1,a2⟩:=p
   simp only at p0 p1
   have hb7:Below wr.heap.size wr (wr.alloc (.cells #[.int .i64 a1,.int .i64 a2] 78)):=(Below.refl _ wr).alloc (Nat.le_refl _) _
   have HW7:=Lib.hid (hW.out.later hb7)
   have HX7:=Lib.hid (Blk.new wr 78 #[.int .i64 a1,.int .i64 a2])
   clear hp hbl2 hI
   go_upto_region 13 with fail
   obtain ⟨Z,hZ⟩:∃ Z,wr.heap.size=Z:=⟨_,rfl⟩
   rw [hZ] at HX7 ⊢
   generalize wr.alloc (.cells #[.int .i64 a1,.int .i64 a2] 78)=W7 at *
   clear hZ hb7 hW p0 p1
   have z0:W7.cell? ⟨Z,0,none⟩=some (.int .i64 a1):=HX7.out.cell 0
   have z1:W7.cell? ⟨Z,1,none⟩=some (.int .i64 a2):=HX7.out.cell 1
   have hmp:=HW7.out.mp
   obtain ⟨bb,hbb⟩:∃ bb,decide (((a1,a2):Pp)∈lftD m x.l k)=bb:=⟨_,rfl⟩
   have hlk:(Instr.lookup 129 (.map (some (X+1))) (.agg #[.int .i64 a1,.int .i64 a2]) true).run Tryz.prog W7 = .ok (.tuple #[.agg #[],.bool bb]) W7:=by
    have:=(hmp.lookup pp_keys Tryz.underlying129 (Tryz.zeroValue114 _) (a1,a2)).2
    rw [(mget_setU_some _ _).2,show (mget ((a1,a2):Pp) (setU (lftD m x.l k))).isSome=bb from by rw [(mget_setU_some _ _).1,← hbb];congr] at this
    exact this
   have hb8:Below W7.heap.size W7 (W7.alloc (.cells #[] 114)):=(Below.refl _ W7).alloc (Nat.le_refl _) _
   have HW8:=Lib.hid (HW7.out.later hb8)
   have HX8:=Lib.hid (HX7.out.below hb8)
   go_upto_region 14 with fail
   generalize W7.alloc (.cells #[] 114)=W8 at *
   clear hb8 HW7 HX7 hmp hlk z0 z1
   have z0:W8.cell? ⟨Z,0,none⟩=some (.int .i64 a1):=HX8.out.cell 0
   have z1:W8.cell? ⟨Z,1,none⟩=some (.int .i64 a2):=HX8.out.cell 1
   cases bb with
   | false =>
    have hnm:=of_decide_eq_false hbb
    have HDF:=Lib.hid (HMK.out (fun h=>hnm (HLM.out.2 h)))
    obtain ⟨c0,c1,f0,f1⟩:W8.cell? ⟨w.heap.size+1,0,none⟩=some (.int .i64 0)∧W8.cell? ⟨w.heap.size+1,1,none⟩=some (.int .i64 0)∧W8.frozen? ⟨w.heap.size+1,0,none⟩=false∧W8.frozen? ⟨w.heap.size+1,1,none⟩=false:=⟨HW8.out.rs.cell 0,HW8.out.rs.cell 1,HW8.out.rs.frozen 0,HW8.out.rs.frozen 1⟩
    have HE:=Lib.hid (show DifE S B F L w (.returned (.tuple #[.int .i64 i,.agg #[.int .i64 a1,.int .i64 a2]])) ((W8.setCell ⟨w.heap.size+1,0,none⟩ (.int .i64 a1)).setCell ⟨w.heap.size+1,1,none⟩ (.int .i64 a2)).drew from ⟨i,(a1,a2),rfl,(HFE.out HDF.out.2).symm,fun _=>⟨x,HTM.out,HPA.out,HDF.out.1⟩,((HW8.out.b.setCell (Nat.le_succ _) _).setCell (Nat.le_succ _) _).drew⟩)
    have HRB:=Lib.hid (show Blk ((W8.setCell ⟨w.heap.size+1,0,none⟩ (.int .i64 a1)).setCell ⟨w.heap.size+1,1,none⟩ (.int .i64 a2)).drew (w.heap.size+1) 78 #[.int .i64 a1,.int .i64 a2] from ((HW8.out.rs.set 0 (.int .i64 a1)).set 1 (.int .i64 a2)).below ((Below.refl _ _).drew))
    clear hnm hbb HLM HLX HIN HMK HW8 HX8
    go_upto_region 15 with fail
    go_region
    go_wp2
    refine bodyPost_ret (results_tmp_row rfl _ _ (w.heap.size+1) 78 _ (0,0) _ rfl HRB.out Tryz.underlying78 rfl (pp_size2 rfl)) rfl ?_
    exact HE.out
   | true =>
    have hym:=of_decide_eq_true hbb
    have HIN2:=Lib.hid (HIN.out (HLM.out.1 hym))
    have hmp:=HW8.out.mp
    clear hym hbb HLM HMK HIN
    go_upto_region 16 with fail
    obtain ⟨W9,hrun,hm9,hg9,hs9⟩:=hmp.delete pp_keys Tryz.underlying129 78 0 (a1,a2)
    simp only [ekP] at hrun
    go_wp2
    rw [mdel_setU _ _ (lftD_nodup HMP.out _ _),HLX.out] at hm9
    have HW9:=Lib.hid (HW8.out.upd hm9 hg9)
    clear hm9 hg9 hs9 hmp HW8 HX8 z0 z1
    refine ⟨⟨k+1,by omega,by go_num,HIN2,HW9⟩,?_⟩
    simp [intOf]
    omega
  have hk2:¬ (k:Int)<(x.l.length:Int):=by omega
  have hke:k=x.l.length:=by omega
  rw [hke] at hW
  have HIA:=Lib.hid (show ∀ p∈x.l,p∈m from fun p hp=>by
   obtain ⟨j,hj,rfl⟩:=List.getElem_of_mem hp
   exact hI.out j hj (by omega))
  have hmp:=hW.out.mp
  clear hke hI
  go_wp2_with (at_range;refine wpList_range_mp _ rfl _ 129 rfl 78 114 Tryz.underlying129 rfl hmp ?_;intro W9 hrg9 hg9 hs9)
  try go_frame
  have HW9:=Lib.hid (hW.out.later ⟨hg9.os,hg9.tape,hg9.output,hg9.size,fun k hk=>hg9.block k hk (by simp)⟩)
  have HG9:=Lib.hid hrg9
  obtain ⟨rb,hrb⟩:∃ rb,wr.heap.size=rb:=⟨_,rfl⟩
  have HRBB:=Lib.hid (show w.heap.size≤rb from by rw [← hrb];exact hW.out.b.size)
  rw [hrb] at HG9 ⊢
  clear hrg9 hg9 hs9 hmp hW hrb
  go_loopw [62] (fun _ wr=>Hid (Rg ekP wr (X+1) rb (setU (lftD m x.l x.l.length)) (setU (lftD m x.l x.l.length)))∧Hid (DfW w X v1 v2 v3 v4 #[.slice ka x.h.ks.length kc,.slice sa x.h.ss.length sc,.slice ca x.h.cs.length cc,.slice pa x.l.length pc] (lftD m x.l x.l.length) wr)) (fun _ _=>0)
  case atStart=>exact ⟨HG9,HW9⟩
  clear HG9 HW9
  obtain ⟨hG,hW⟩:=hrel
  go_wp2_with (at_next;refine wpList_next_mp _ rfl _ rfl rfl hG.out ?_ ?_)
  ·intro hleft
   have hnil:lftD m x.l x.l.length=[]:=by unfold setU at hleft;exact List.map_eq_nil_iff.1 hleft
   have HEQ:=Lib.hid (HNX.out (asc_ext HMP.out HLP.out fun p=>⟨fun h=>by
    by_cases hp:p∈x.l
    ·exact hp
    ·have:=lftD_all.2 ⟨h,hp⟩
     rw [hnil] at this
     exact absurd this List.not_mem_nil,HIA.out p⟩))
   have HB9:=Lib.hid hW.out.b
   have HS9:=Lib.hid hW.out.sp
   have HR9:=Lib.hid hW.out.rs
   clear hleft hnil hG hW
   go_wp2
   go_roundw
   case rel=>exact ⟨i+1,by omega,by go_num,HEQ,HB9,HS9,HR9⟩
   case measure=>simp [intOf];omega
  ·intro a1 a2 v W10 hin hrg10 hg10 hs10 hen
   obtain ⟨hpm,hpl⟩:=lftD_all.1 (show ((a1,a2):Pp)∈lftD m x.l x.l.length from by
    unfold setU at hin
    obtain ⟨q,hq,e⟩:=List.mem_map.1 hin
    cases e
    exact hq)
   have HDF:=Lib.hid (HLE.out _ hpl hpm)
   simp only [ekP] at hen
   have hbA:Below w.heap.size w W10:=hW.out.b.grown hg10 hW.out.b.size (fun j e=>by cases e;exact HRBB.out)
   have hrA:=hW.out.rs.grown hg10 (fun e=>rg_blk_ne hG.out hW.out.rs (Option.some.inj e))
   have hbB:Below W10.heap.size W10 (W10.alloc (.cells #[.int .i64 a1,.int .i64 a2] 78)):=(Below.refl _ W10).alloc (Nat.le_refl _) _
   have HX8:=Lib.hid (Blk.new W10 78 #[.int .i64 a1,.int .i64 a2])
   have HBB:=Lib.hid (below_step hbA hbB)
   have HRB0:=Lib.hid (hrA.below hbB)
   clear hin hrg10 hg10 hs10 hpm hpl hG hW hbA hrA hbB
   try go_frame
   go_upto_region 21 with fail
   obtain ⟨Z,hZ⟩:∃ Z,W10.heap.size=Z:=⟨_,rfl⟩
   rw [hZ] at HX8 ⊢
   generalize W10.alloc (.cells #[.int .i64 a1,.int .i64 a2] 78)=W8 at *
   have z0:W8.cell? ⟨Z,0,none⟩=some (.int .i64 a1):=HX8.out.cell 0
   have z1:W8.cell? ⟨Z,1,none⟩=some (.int .i64 a2):=HX8.out.cell 1
   obtain ⟨c0,c1,f0,f1⟩:W8.cell? ⟨w.heap.size+1,0,none⟩=some (.int .i64 0)∧W8.cell? ⟨w.heap.size+1,1,none⟩=some (.int .i64 0)∧W8.frozen? ⟨w.heap.size+1,0,none⟩=false∧W8.frozen? ⟨w.heap.size+1,1,none⟩=false:=⟨HRB0.out.cell 0,HRB0.out.cell 1,HRB0.out.frozen 0,HRB0.out.frozen 1⟩
   have HE:=Lib.hid (show DifE S B F L w (.returned (.tuple #[.int .i64 i,.agg #[.int .i64 a1,.int .i64 a2]])) ((W8.setCell ⟨w.heap.size+1,0,none⟩ (.int .i64 a1)).setCell ⟨w.heap.size+1,1,none⟩ (.int .i64 a2)).drew from ⟨i,(a1,a2),rfl,(HFE.out HDF.out.2.2).symm,fun _=>⟨x,HTM.out,HDF.out.1,HDF.out.2.1⟩,((HBB.out.setCell (Nat.le_succ _) _).setCell (Nat.le_succ _) _).drew⟩)
   have HRB:=Lib.hid (show Blk ((W8.setCell ⟨w.heap.size+1,0,none⟩ (.int .i64 a1)).setCell ⟨w.heap.size+1,1,none⟩ (.int .i64 a2)).drew (w.heap.size+1) 78 #[.int .i64 a1,.int .i64 a2] from ((HRB0.out.set 0 (.int .i64 a1)).set 1 (.int .i64 a2)).below ((Below.refl _ _).drew))
   clear HRB0 HBB hZ
   go_region
   go_wp2
   refine bodyPost_ret (results_tmp_row rfl _ _ (w.heap.size+1) 78 _ (0,0) _ rfl HRB.out Tryz.underlying78 rfl (pp_size2 rfl)) rfl ?_
   exact HE.out
 ·have hi2:¬ (i:Int)<(L.length:Int):=by omega
  have hie:i=L.length:=by omega
  rw [hie] at hN
  have HFE:=Lib.hid (failI_end hN.out)
  obtain ⟨c0,c1,f0,f1⟩:wr.cell? ⟨w.heap.size+1,0,none⟩=some (.int .i64 0)∧wr.cell? ⟨w.heap.size+1,1,none⟩=some (.int .i64 0)∧wr.frozen? ⟨w.heap.size+1,0,none⟩=false∧wr.frozen? ⟨w.heap.size+1,1,none⟩=false:=⟨hR.out.cell 0,hR.out.cell 1,hR.out.frozen 0,hR.out.frozen 1⟩
  have HE:=Lib.hid (show DifE S B F L w (.returned (.tuple #[.int .i64 (-1),.agg #[.int .i64 0,.int .i64 0]])) ((wr.setCell ⟨w.heap.size+1,0,none⟩ (.int .i64 0)).setCell ⟨w.heap.size+1,1,none⟩ (.int .i64 0)) from ⟨-1,(0,0),rfl,HFE.out.symm,fun h=>absurd h (by decide),(hB.out.setCell (Nat.le_succ _) _).setCell (Nat.le_succ _) _⟩)
  have HRB:=Lib.hid (show Blk ((wr.setCell ⟨w.heap.size+1,0,none⟩ (.int .i64 0)).setCell ⟨w.heap.size+1,1,none⟩ (.int .i64 0)) (w.heap.size+1) 78 #[.int .i64 0,.int .i64 0] from (hR.out.set 0 (.int .i64 0)).set 1 (.int .i64 0))
  clear hN hie
  go_wp2
  refine bodyPost_ret (results_tmp_row rfl _ _ (w.heap.size+1) 78 _ (0,0) _ rfl HRB.out Tryz.underlying78 rfl (pp_size2 rfl)) rfl ?_
  exact HE.out
theorem trl_hands {S:Sp} {L:List Tl} (h:trlE S L=0):∀ t∈L,HnOk S t.h∧t.l.Pairwise ppLt∧∀ p∈t.l,p∈allFrom 0 S.rs:=fun t ht=>by
 obtain ⟨h1,_,h3⟩:=trlE_ok h
 obtain ⟨h4,h5,h6⟩:=h3 t ht
 exact ⟨hnd_ok h1 h4,h5,h6⟩
theorem ppFormI {w:World} {v:Value} {l:List Pp} (h:ARd w v 2 (l.map ppC)):∃ a c,v = .slice a l.length c:=by
 obtain ⟨a,c,e⟩:=h.form
 exact ⟨a,c,by simpa using e⟩
theorem samep_any (a b:List Pp) (va vb:Value) (w:World) (ha:ARd w va 2 (a.map ppC)) (hb:ARd w vb 2 (b.map ppC)) (hl:a.length≤1000000) :
  Calls Tryz.prog 21 #[va,vb] w (BoolR (decide (a=b)) w):=by
 obtain ⟨aa,ca,eva⟩:=ppFormI ha
 obtain ⟨ab,cb,evb⟩:=ppFormI hb
 subst eva evb
 have HA:=Lib.hid ha
 have HB:=Lib.hid hb
 clear ha hb
 go_enter Tryz.func21,Tryz.ntmps21
 by_cases hln:a.length=b.length
 case neg =>
  have q1:((a.length:Int)==(b.length:Int))=false:=by rw [beq_eq_false_iff_ne];omega
  have HE:Hid (decide (a=b)=false):=Lib.hid (decide_eq_false (fun q=>hln (congrArg List.length q)))
  have HW:=Lib.hid (Below.refl w.heap.size w)
  clear hln
  go_wp2
  go_ret
  exact ⟨by rw [HE.out];rfl,HW.out⟩
 have q1:((a.length:Int)==(b.length:Int))=true:=by rw [beq_iff_eq];omega
 have HLN:=Lib.hid hln
 have HV0:Hid (∀ j (h1:j<a.length) (h2:j<b.length),j<0→a[j]=b[j]):=Lib.hid (fun j _ _ h=>absurd h (Nat.not_lt_zero _))
 have HW0:=Lib.hid (Below.refl w.heap.size w)
 obtain ⟨bl,hbl⟩:∃ n,b.length=n:=⟨_,rfl⟩
 rw [hbl] at q1 ⊢
 have HBL:=Lib.hid hbl
 clear hln hbl
 go_wp2
 go_loopw [5] (fun x wr=>∃ i:Nat,i≤a.length∧x = .int .i64 i∧Hid (∀ j (h1:j<a.length) (h2:j<b.length),j<i→a[j]=b[j])∧Hid (Below w.heap.size w wr)) (fun x _=>a.length-(intOf x).toNat)
 case atStart=>exact ⟨0,Nat.zero_le _,rfl,HV0,HW0⟩
 clear HV0 HW0
 obtain ⟨i,hi,rfl,hV,hW⟩:=hrel
 by_cases hil:i<a.length
 ·have hi2:(i:Int)<(a.length:Int):=by omega
  have hib:i<b.length:=by rw [← HLN.out];exact hil
  have hi3:(i:Int)<(bl:Int):=by have:=HBL.out;omega
  obtain ⟨b1,o1,c1,ev,hbl,k0,k1⟩:=(HA.out.later hW.out).ppAt i hil
  cases ev
  obtain ⟨b2,o2,c2,ev,hbl2,m0,m1⟩:=(HB.out.later hW.out).ppAt i hib
  rw [HBL.out] at ev
  cases ev
  have HX:=Lib.hid (show a[i]=b[i]→∀ j (h1:j<a.length) (h2:j<b.length),j<i+1→a[j]=b[j] from fun h j h1 h2 hj=>by
   rcases Nat.lt_or_ge j i with q | q
   ·exact hV.out j h1 h2 q
   ·have:j=i:=by omega
    subst this
    exact h)
  have HY:=Lib.hid (show a[i]≠b[i]→a≠b from fun h q=>h (by subst q;rfl))
  obtain ⟨⟨x0,x1⟩,hx⟩:∃ x,a[i]=x:=⟨_,rfl⟩
  obtain ⟨⟨y0,y1⟩,hy⟩:∃ y,b[i]=y:=⟨_,rfl⟩
  rw [hx] at k0 k1 HX HY
  rw [hy] at m0 m1 HX HY
  dsimp only at k0 k1 m0 m1
  clear hx hy hV hbl hbl2 hib
  obtain ⟨bb,hbb⟩:∃ bb,decide (((x0,x1):Pp)=(y0,y1))=bb:=⟨_,rfl⟩
  have hne:=fun W=>nePp hbb W
  dsimp only at hne
  cases bb with
  | true =>
   have HN:=Lib.hid (HX.out (of_decide_eq_true hbb))
   clear hbb HX HY
   go_upto_region 6 with fail
   go_quiet (fail)
   have HW9:=Lib.hid (below_drewN hW.out nq)
   go_wp2
   go_roundw
   case rel=>exact ⟨i+1,by omega,by go_num,HN,HW9⟩
   case measure=>simp [intOf];omega
  | false =>
   have HN:Hid (decide (a=b)=false):=Lib.hid (decide_eq_false (HY.out (of_decide_eq_false hbb)))
   clear hbb HX HY
   go_upto_region 6 with fail
   go_quiet (fail)
   have HW9:=Lib.hid (below_drewN hW.out nq)
   go_wp2
   go_ret
   exact ⟨by rw [HN.out];rfl,HW9.out⟩
 ·have hi2:¬ (i:Int)<(a.length:Int):=by omega
  have HN:Hid (decide (a=b)=true):=Lib.hid (decide_eq_true (List.ext_getElem HLN.out (fun j h1 h2=>hV.out j h1 h2 (by omega))))
  go_wp2
  go_ret
  exact ⟨by rw [HN.out];rfl,hW.out⟩
theorem fails30_any (v1 v2 v3 v4:Value) (S:Sp) (ok:SpWk S) (hc:(checkP S).2=0) (fp:Nat→Value) (fv:Value) (F:List Ft) (hF:∀ x∈F,ftOk S x=true) (hFl:F.length≤1000000) (L:List Tl) (hL:∀ t∈L,HnOk S t.h) (hll:L.length≤1000000) (tv:Value) (gk gs gc gh:Nat→Value) (B:(Th→Int)→Pp→Bool) (hB:SndIs S B) (w:World) (hsp:SpRd w v1 v2 v3 v4 fp S) (htv:TlRd w tv L gk gs gc gh) (hfv:ARd w fv 3 (F.map ftC)) :
  Calls Tryz.prog 35 #[.agg #[v1,v2,v3,v4],fv,tv] w (NumR (failI S B F L) w):=by
 obtain ⟨at',ct,ev⟩:=htv.form
 subst ev
 obtain ⟨af,cf,ev⟩:=hfv.ftForm
 subst ev
 have HT:=Lib.hid htv
 have HHE:=Lib.hid (fun (i:Nat) (hi:i<L.length) (W:World) (hb:Below w.heap.size w W)=>hears30_any v1 v2 v3 v4 S ok hc fp (gk i) (gs i) (gc i) (.slice af F.length cf) L[i].h (hL _ (List.getElem_mem hi)) F hF hFl B hB W (hsp.later hb) ((htv.later hb).hd i hi) (hfv.later hb))
 have HLN:=Lib.hid (show ∀ f,(hearL S B F f).length≤1000000 from fun f=>Nat.le_trans (List.length_filter_le _ _) (by
  have h1:=allFrom_len (spGood hc).r 0
  have h2:=sp_lens hc
  omega))
 have HB0:=Lib.hid (show Below w.heap.size w (w.alloc (.cells #[v1,v2,v3,v4] 27)) from (Below.refl _ _).alloc (Nat.le_refl _) _)
 have K0:=Lib.hid (Blk.new w 27 #[v1,v2,v3,v4])
 have HN0:=Lib.hid (show ∀ j,j<0→badB S B F L j=false from fun j h=>absurd h (Nat.not_lt_zero _))
 clear htv hL ok hc hF hFl hB hsp hfv
 go_enter Tryz.func35,Tryz.ntmps35
 go_wp2
 generalize w.alloc (.cells #[v1,v2,v3,v4] 27)=W0 at *
 go_loopw [7] (fun x wr=>∃ i:Nat,i≤L.length∧x = .int .i64 i∧Hid (∀ j,j<i→badB S B F L j=false)∧Hid (Below w.heap.size w wr)∧Hid (Blk wr w.heap.size 27 #[v1,v2,v3,v4])) (fun x _=>L.length-(intOf x).toNat)
 case atStart=>exact ⟨0,Nat.zero_le _,rfl,HN0,HB0,K0⟩
 clear HN0 HB0 K0
 obtain ⟨i,hi,rfl,hN,hB,hK⟩:=hrel
 by_cases hil:i<L.length
 ·have hi2:(i:Int)<(L.length:Int):=by omega
  obtain ⟨b,o,c',ev,hbl,q0,q1,q2,q3⟩:=(HT.out.later hB.out).at' hil
  cases ev
  have HTH:=Lib.hid (fun (W:World) (hb:Below w.heap.size w W)=>(HT.out.later hb).pp i hil)
  have HCH:=Lib.hid (HHE.out i hil)
  obtain ⟨⟨ka,kc,ek⟩,⟨sa,sc,es⟩,⟨ca,cc,ec⟩⟩:=((HT.out.later hB.out).hd i hil).forms
  obtain ⟨pa,pc,ep⟩:=((HT.out.later hB.out).pp i hil).form
  rw [List.length_map] at ep
  have HFE:=Lib.hid (fun (h:hearL S B F (onH L[i].h)≠L[i].l)=>failI_here hil hN.out h)
  have HNX:=Lib.hid (fun (h:hearL S B F (onH L[i].h)=L[i].l)=>show ∀ j,j<i+1→badB S B F L j=false from fun j hj=>by
   by_cases e:j=i
   ·subst e;rw [badB_at hil,decide_eq_true h];rfl
   ·exact hN.out j (by omega))
  rw [ek] at q0 HCH
  rw [es] at q1 HCH
  rw [ec] at q2 HCH
  rw [ep] at q3 HTH
  obtain ⟨x,hx⟩:∃ x,L[i]=x:=⟨_,rfl⟩
  rw [hx] at HTH HCH HFE HNX q0 q1 q2 q3
  have HML:=Lib.hid (HLN.out (onH x.h))
  obtain ⟨m,hm⟩:∃ m,hearL S B F (onH x.h)=m:=⟨_,rfl⟩
  rw [hm] at HCH HFE HNX HML
  obtain ⟨sb,hsb⟩:∃ sb:Bool,m=x.l↔sb=true:=⟨decide (m=x.l),by rw [decide_eq_true_iff]⟩
  have HSA:=Lib.hid (fun (W:World) (hb:Below w.heap.size w W) (va:Value) (ha:ARd W va 2 (m.map ppC))=>(samep_any m x.l va _ W ha (HTH.out W hb) HML.out).mono fun e w' (h:BoolR _ _ _ _)=>show BoolR sb W e w' from ⟨h.1.trans (by rw [show decide (m=x.l)=sb from by rw [Bool.eq_iff_iff,decide_eq_true_iff];exact hsb]),h.2⟩)
  have HSB:=Lib.hid hsb
  clear hsb
  obtain ⟨s0,s1,s2,s3⟩:=hK.out.four
  have hbd:Below wr.heap.size wr wr.drew:=(Below.refl _ _).drew
  have hdr:=hc8 (W:=wr) (w:=w) ⟨hB.out,s0,s1,s2,s3,q0,q1,q2,q3⟩ hbd
  have HKD:=Lib.hid (hK.out.below hbd)
  clear hx hm ek es ec ep hN s0 s1 s2 s3 q0 q1 q2 q3 hbd hB hK
  go_upto_region 4 with fail
  go_region_held3 (fun w'=>Below w.heap.size w w'∧w'.cell? ⟨w.heap.size,0,none⟩=some v1∧w'.cell? ⟨w.heap.size,1,none⟩=some v2∧w'.cell? ⟨w.heap.size,2,none⟩=some v3∧w'.cell? ⟨w.heap.size,3,none⟩=some v4∧w'.cell? ⟨b,o+i * 4,none⟩=some (.slice ka x.h.ks.length kc)∧w'.cell? ⟨b,o+i * 4+1,none⟩=some (.slice sa x.h.ss.length sc)∧w'.cell? ⟨b,o+i * 4+2,none⟩=some (.slice ca x.h.cs.length cc)∧w'.cell? ⟨b,o+i * 4+3,none⟩=some (.slice pa x.l.length pc)) (first | exact hdr | assumption | fail) (first | (go_at_call 38;(with_reducible refine (HCH.out _ hdr.1).mono ?_);rintro e w2 ⟨u,rfl,hrow,hb2⟩;obtain ⟨ua,un,rfl⟩:=own_form hrow;have hn:=hc8 hdr hb2;have hk2:=HKD.out.below hb2;have hsam:=HSA.out w2 hn.1 _ (ARd.of_pps hrow)) | (go_at_call 21;(with_reducible refine hsam.mono ?_);rintro e w3 ⟨rfl,hb3⟩;have hn3:=hc8 hn hb3;have HB3:=Lib.hid hn3.1;have HK3:=Lib.hid (hk2.below hb3)) | fail)
  clear hdr hn hn3 hk2 HKD hsam HCH HSA
  cases sb with
  | true =>
   have HN2:=Lib.hid (HNX.out (HSB.out.2 rfl))
   clear HNX HFE
   go_wp2
   go_roundw
   case rel=>exact ⟨i+1,by omega,by go_num,HN2,HB3,HK3⟩
   case measure=>simp [intOf];omega
  | false =>
   have HE:=Lib.hid (HFE.out fun h=>absurd (HSB.out.1 h) (by decide))
   clear HNX HFE
   go_wp2
   go_ret
   exact numR HE.out HB3.out
 ·have hi2:¬ (i:Int)<(L.length:Int):=by omega
  have hie:i=L.length:=by omega
  rw [hie] at hN
  have HE:=Lib.hid (failI_end hN.out)
  clear hie hN
  go_wp2
  go_ret
  exact numR HE.out hB.out
end Go.Proofs.YteflhbfgpknabaaGreatDoor
