/-
  A part of the proof: L42.
-/
import Derived.Test.YteflhbfgpknabaaGreatDoorB01
import Derived.Test.YteflhbfgpknabaaGreatDoorB08
import Derived.Test.YteflhbfgpknabaaGreatDoorB10
import Derived.Deep.CutBlock
set_option maxRecDepth 100000
set_option maxHeartbeats 12800000
namespace Go.Proofs.YteflhbfgpknabaaGreatDoor
open Go.Lib (hid)
open Go.RowKit Go.Shelf
theorem diagnosisMore_walk (v1 v2 v3 v4 fv vk vs vc tv hv:Value) (most:Int) (fp:Nat→Value) (S:Sp) (F:List Ft) (H:Hn) (L:List Tl) (Hs:List Hn) (gk gs gc gh hk hs hc:Nat→Value) (bt:Int) (w:World) (t:Tabs w) (d:Deb w) (c:CsIn w v1 v2 v3 v4 fv vk vs vc tv hv fp S F H L Hs gk gs gc gh hk hs hc) (b1:0≤bt) (b2:bt<256) :
  Calls Tryz.prog 6 #[.agg #[v1,v2,v3,v4,fv,vk,vs,vc,tv,.int .i64 most,hv],.int .u8 bt] w (BoolR true w):=by
 obtain ⟨fa,fc,rfl⟩:=c.m.f.ftForm
 obtain ⟨ha,hac,rfl⟩:=c.m.hs.form
 obtain ⟨_,_,⟨a3,c3,rfl⟩,⟨a4,c4,rfl⟩⟩:=c.m.sp.forms
 have HB0:=hid (show Below w.heap.size w (w.alloc (.cells #[v1,v2,.slice a3 S.ss.length c3,.slice a4 S.cs.length c4,.slice fa F.length fc,vk,vs,vc,tv,.int .i64 most,.slice ha Hs.length hac] 36)) from (Below.refl _ _).alloc (Nat.le_refl _) _)
 have K0:=hid (Blk.new w 36 #[v1,v2,.slice a3 S.ss.length c3,.slice a4 S.cs.length c4,.slice fa F.length fc,vk,vs,vc,tv,.int .i64 most,.slice ha Hs.length hac])
 have HT:=hid t
 have HD:=hid d
 have HC:=hid c
 have HM:=hid (c.m.later HB0.out)
 have HBT:=hid (show 0≤bt∧bt<256 from ⟨b1,b2⟩)
 clear t d c b1 b2
 go_enter Tryz.func6,Tryz.ntmps6
 go_upto_region 1 with fail
 obtain ⟨P,hP⟩:∃ P,w.heap.size=P:=⟨_,rfl⟩
 generalize w.alloc (.cells #[v1,v2,.slice a3 S.ss.length c3,.slice a4 S.cs.length c4,.slice fa F.length fc,vk,vs,vc,tv,.int .i64 most,.slice ha Hs.length hac] 36)=W0 at *
 rw [hP] at K0 ⊢
 clear hP
 have HSH:=hid (fun (W:World) (hz:Below W0.heap.size W0 W)=>shown30_any W (HD.out.below (below_step HB0.out hz)) (HT.out.below (below_step HB0.out hz)))
 obtain ⟨e0,e1,e2,e3,e4,e5,e6,e7,e8,e9,e10⟩:=case_cells K0.out (Below.refl _ W0)
 go_wp2_with fail
 refine (far30_any v1 v2 _ _ _ vk vs vc tv _ most fp S F H L Hs gk gs gc gh hk hs hc W0 HM.out HC.out.ll HC.out.lh).mono ?_
 rintro e W1 ⟨bf,rfl,hbf,HZ1⟩
 replace HZ1:=hid HZ1
 cases bf with
 | true =>
  clear hbf e0 e1 e2 e3 e4 e5 e6 e7 e8 e9 e10
  go_wp2_with fail
  refine (HSH.out _ HZ1.out).mono ?_
  rintro e W9 ⟨rfl,hb9⟩
  have HB9:=hid (below_step HB0.out (below_step HZ1.out hb9))
  clear hb9
  go_wp2
  go_ret
  exact ⟨rfl,HB9.out⟩
 | false =>
  have HF:=hid (hbf rfl)
  have HW:=hid (HC.out.wk HF.out)
  obtain ⟨B,hB⟩:=snd_some S
  have HSB:=hid (fun (_:(checkP S).2=0)=>hB)
  have HFL:=hid (show F.length≤1000000 by have:=HF.out.fl;omega)
  have HHM:=hid (show ∀ H∈Hs,HnSm H from fun H hH=>(HF.out.hs H hH).sm)
  have HHL:=hid (show Hs.length≤1000000 by have:=HF.out.hl;omega)
  clear hB hbf e0 e1 e2 e3 e4 e5 e6 e7 e8 e9 e10
  have HGr:=hid (fun (W:World) (hz:Below W0.heap.size W0 W)=>faults30_any v1 v2 _ _ S HW.out fp F _ HFL.out W (HM.out.later hz).sp (HM.out.later hz).f)
  have HHD:=hid (fun (h:fltE S F=0) (W:World) (hz:Below W0.heap.size W0 W)=>heard_any v1 v2 _ _ S HW.out fp F h HFL.out _ Hs HHM.out HHL.out _ hk hs hc B HSB.out W (HM.out.later hz).sp (HM.out.later hz).f (HM.out.later hz).hs)
  have HLE:=hid (fun (T:List Tl) (hs9:∀ t∈T,HnSm t.h∧t.l.length≤1000000) (hl9:T.length≤1000000) (tv9:Value) (p1 p2 p3 p4:Nat→Value) (W:World) (hz:Below W0.heap.size W0 W) (htv:TlRd W tv9 T p1 p2 p3 p4)=>leastD_any v1 v2 _ _ S HW.out fp T hs9 hl9 tv9 p1 p2 p3 p4 B HSB.out 2 W (HD.out.below (below_step HB0.out hz)) (HT.out.below (below_step HB0.out hz)) (HM.out.later hz).sp HC.out.cap htv)
  have HNX:=hid (fun (T:List Tl) (hs9:∀ t∈T,HnSm t.h∧t.l.length≤1000000) (hl9:T.length≤1000000) (tv9:Value) (p1 p2 p3 p4:Nat→Value) (W:World) (hz:Below W0.heap.size W0 W) (htv:TlRd W tv9 T p1 p2 p3 p4)=>nextD_any v1 v2 _ _ S HW.out fp T hs9 hl9 tv9 p1 p2 p3 p4 Hs HHM.out HHL.out _ hk hs hc B HSB.out 2 W (HD.out.below (below_step HB0.out hz)) (HT.out.below (below_step HB0.out hz)) (HM.out.later hz).sp HC.out.cap htv (HM.out.later hz).hs)
  have HHE:=hid (fun (G:List Ft) (gv:Value) (hG:G.length≤1000000) (j:Nat) (hj:j<Hs.length) (W:World) (hz:Below W0.heap.size W0 W) (hgv:ARd W gv 3 (G.map ftC))=>hearsW30_any v1 v2 _ _ S HW.out fp (hk j) (hs j) (hc j) gv Hs[j] (HHM.out _ (List.getElem_mem hj)) G hG B HSB.out W (HM.out.later hz).sp ((HM.out.later hz).hs.hd j hj) hgv)
  have HHV:=hid (fun (W:World) (hz:Below W0.heap.size W0 W)=>(HM.out.later hz).hs)
  clear HW HSB HF HC HM HT HD
  obtain ⟨e0,e1,e2,e3,e4,e5,e6,e7,e8,e9,e10⟩:=case_cells K0.out HZ1.out
  by_cases h1:F.length≤2
  case neg =>
   have q1:(2:Int)<(F.length:Int):=by omega
   clear h1
   go_wp2_with fail
   refine (HSH.out _ HZ1.out).mono ?_
   rintro e W9 ⟨rfl,hb9⟩
   have HB9:=hid (below_step HB0.out (below_step HZ1.out hb9))
   clear hb9
   go_wp2
   go_ret
   exact ⟨rfl,HB9.out⟩
  have q1:¬ (2:Int)<(F.length:Int):=by omega
  by_cases h0:2≤Hs.length
  case neg =>
   have q0:(Hs.length:Int)<2:=by omega
   clear h0
   go_wp2_with fail
   refine (HSH.out _ HZ1.out).mono ?_
   rintro e W9 ⟨rfl,hb9⟩
   have HB9:=hid (below_step HB0.out (below_step HZ1.out hb9))
   clear hb9
   go_wp2
   go_ret
   exact ⟨rfl,HB9.out⟩
  have q0:¬ (Hs.length:Int)<2:=by omega
  by_cases h2:Hs.length≤4
  case neg =>
   have q2:(4:Int)<(Hs.length:Int):=by omega
   clear h2
   go_wp2_with fail
   refine (HSH.out _ HZ1.out).mono ?_
   rintro e W9 ⟨rfl,hb9⟩
   have HB9:=hid (below_step HB0.out (below_step HZ1.out hb9))
   clear hb9
   go_wp2
   go_ret
   exact ⟨rfl,HB9.out⟩
  have q2:¬ (4:Int)<(Hs.length:Int):=by omega
  by_cases h3:S.ss.length≤4
  case neg =>
   have q3:(4:Int)<(S.ss.length:Int):=by omega
   clear h3
   go_wp2_with fail
   refine (HSH.out _ HZ1.out).mono ?_
   rintro e W9 ⟨rfl,hb9⟩
   have HB9:=hid (below_step HB0.out (below_step HZ1.out hb9))
   clear hb9
   go_wp2
   go_ret
   exact ⟨rfl,HB9.out⟩
  have q3:¬ (4:Int)<(S.ss.length:Int):=by omega
  by_cases h4:S.cs.length≤4
  case neg =>
   have q4:(4:Int)<(S.cs.length:Int):=by omega
   clear h4
   go_wp2_with fail
   refine (HSH.out _ HZ1.out).mono ?_
   rintro e W9 ⟨rfl,hb9⟩
   have HB9:=hid (below_step HB0.out (below_step HZ1.out hb9))
   clear hb9
   go_wp2
   go_ret
   exact ⟨rfl,HB9.out⟩
  have q4:¬ (4:Int)<(S.cs.length:Int):=by omega
  go_wp2_with fail
  refine (HGr.out _ HZ1.out).mono ?_
  rintro e W2 ⟨rfl,hb2⟩
  have HZ2:=hid (below_step HZ1.out hb2)
  clear hb2 HZ1 HGr q0 q1 q2 q3 q4 e0 e1 e2 e3 e4 e5 e6 e7 e8 e9 e10
  obtain ⟨n,hn⟩:∃ n,fltE S F=n:=⟨_,rfl⟩
  rw [hn]
  by_cases hz0:n=0
  case neg =>
   have q5:(n==0)=false:=by simpa using hz0
   have q6:(n != 0)=true:=by simpa using hz0
   clear hz0 hn
   go_wp2_with fail
   refine (HSH.out _ HZ2.out).mono ?_
   rintro e W9 ⟨rfl,hb9⟩
   have HB9:=hid (below_step HB0.out (below_step HZ2.out hb9))
   clear hb9
   go_wp2
   go_ret
   exact ⟨rfl,HB9.out⟩
  subst hz0
  have HOK:=hid (fltE_ok.1 hn)
  obtain ⟨e0,e1,e2,e3,e4,e5,e6,e7,e8,e9,e10⟩:=case_cells K0.out HZ2.out
  go_wp2_with fail
  refine (HHD.out hn _ HZ2.out).mono ?_
  rintro e W3 ⟨tl,bl,rfl,hbt,hb3⟩
  have HZ3:=hid (below_step HZ2.out hb3)
  clear hb3 HZ2 HHD hn e0 e1 e2 e3 e4 e5 e6 e7 e8 e9 e10
  cases bl with
  | false =>
   clear hbt
   go_wp2_with fail
   refine (HSH.out _ HZ3.out).mono ?_
   rintro e W9 ⟨rfl,hb9⟩
   have HB9:=hid (below_step HB0.out (below_step HZ3.out hb9))
   clear hb9
   go_wp2
   go_ret
   exact ⟨rfl,HB9.out⟩
  | true =>
   obtain ⟨hall,gh',htl,htr⟩:=hbt rfl
   clear hbt
   obtain ⟨ta,tc,rfl⟩:=own_form htr
   have hcap:=row_cap htr
   obtain ⟨k,hkk⟩:∃ k,Hs.length=k+1:=⟨Hs.length-1,by omega⟩
   have HKK:=hid hkk
   have HTL:=hid htl
   have HAL:=hid hall
   have HTM:=hid (show ∀ t∈hdT S B F Hs,HnSm t.h∧t.l.length≤1000000 from hd_sm HHM.out HOK.out.1)
   have HTN:=hid (show (hdT S B F Hs).length≤1000000 from by rw [hd_len];omega)
   have HPM:=hid (show ∀ t∈hdT S B F (Hs.take k),HnSm t.h∧t.l.length≤1000000 from hd_sm (fun H hH=>HHM.out H (List.mem_of_mem_take hH)) HOK.out.1)
   have HPN:=hid (show (hdT S B F (Hs.take k)).length≤1000000 from by rw [hd_len,List.length_take];omega)
   have HPL:=hid (fun (W:World) (hz:Below W3.heap.size W3 W)=>show TlRd W (.slice ta k tc) (hdT S B F (Hs.take k)) hk hs hc gh' from hd_take (n:=k) ▸ (HTL.out.later hz).pre (by rw [hd_len];omega) tc)
   have e11:IntKind.i64.wrap ((Hs.length:Int)-1)=(k:Int):=by rw [show (Hs.length:Int)-1=(k:Int) by omega];exact IntWalk.i64_in _ (by omega)
   have e12:(k:Int)≤(tc:Int):=by omega
   have e13:(0:Int)≤(k:Int):=by omega
   clear htr htl hall hkk hcap
   obtain ⟨e0,e1,e2,e3,e4,e5,e6,e7,e8,e9,e10⟩:=case_cells K0.out HZ3.out
   have hdr:=hold4 (W0:=W3) ⟨Below.refl _ W3,e0,e1,e2,e3⟩ ((Below.refl _ W3).drew)
   clear e0 e1 e2 e3 e4 e5 e6 e7 e8 e9 e10
   have HL1:=hid (fun (W:World) (hz:Below W3.heap.size W3 W)=>HLE.out _ HPM.out HPN.out _ _ _ _ _ W (below_step HZ3.out hz) (HPL.out W hz))
   go_upto_region 7 with fail
   go_region_held3 (fun w'=>Below W3.heap.size W3 w'∧w'.cell? ⟨P,0,none⟩=some v1∧w'.cell? ⟨P,1,none⟩=some v2∧w'.cell? ⟨P,2,none⟩=some (.slice a3 S.ss.length c3)∧w'.cell? ⟨P,3,none⟩=some (.slice a4 S.cs.length c4)) (first | exact hdr | assumption | fail) (first | (go_at_call 11;(with_reducible refine (HL1.out _ hdr.1).mono ?_);rintro e w4 ⟨av,M,g,n1,rfl,hls,hst,hb4⟩;have hn4:=hold4 hdr hb4;have HZ4:=hid hn4.1;have HLS:=hid hls;have HST:=hid hst;clear hls hst) | fail)
   clear hdr HL1 hb4
   obtain ⟨_,e0,e1,e2,e3⟩:=hn4
   go_wp2_with fail
   refine (HLE.out _ HTM.out HTN.out _ _ _ _ _ w4 (below_step HZ3.out HZ4.out) (HTL.out.later HZ4.out)).mono ?_
   rintro e w5 ⟨bv,N,gb,n2,rfl,hlsb,hstb,hb5⟩
   have HZ5:=hid (below_step HZ4.out hb5)
   have HST5:=hid (HST.out.later hb5)
   have HSB:=hid hstb
   have HMR:=hid (mor_of HOK.out.1 (by omega) HAL.out h3 h4 HOK.out.2.2 h1 HLS.out hlsb)
   clear hstb hlsb hb5 HST HTL HTM HTN e0 e1 e2 e3
   have HZB:=hid (below_step HZ3.out HZ5.out)
   rcases HMR.out.1 with r1 | r1
   ·subst r1
    clear HMR
    go_wp2_with fail
    refine (HSH.out _ HZB.out).mono ?_
    rintro e W9 ⟨rfl,hb9⟩
    have HB9:=hid (below_step HB0.out (below_step HZB.out hb9))
    clear hb9
    go_wp2
    go_ret
    exact ⟨rfl,HB9.out⟩
   subst r1
   rcases HMR.out.2.1 with r1 | r1
   ·subst r1
    clear HMR
    go_wp2_with fail
    refine (HSH.out _ HZB.out).mono ?_
    rintro e W9 ⟨rfl,hb9⟩
    have HB9:=hid (below_step HB0.out (below_step HZB.out hb9))
    clear hb9
    go_wp2
    go_ret
    exact ⟨rfl,HB9.out⟩
   subst r1
   obtain ⟨m,n,hmr⟩:=HMR.out.2.2 rfl rfl
   have HMO:=hid hmr
   clear hmr HMR
   obtain ⟨aa,ac,rfl⟩:=own_form HST5.out.row
   obtain ⟨ab,bc,rfl⟩:=own_form HSB.out.row
   have ha1:=row_cap HST5.out.row
   have hb1:=row_cap HSB.out.row
   have HA:=hid HST5.out.rd
   have HB:=hid HSB.out.rd
   clear HST5 HSB
   obtain ⟨bA,oA,_,ev,_,p0⟩:=HA.out.at' HMO.out.neM
   cases ev
   obtain ⟨bB,oB,_,ev,_,r0⟩:=HB.out.at' HMO.out.neN
   cases ev
   rw [Nat.add_zero] at p0 r0
   obtain ⟨f0,c0,e00⟩:=(HA.out.st 0 HMO.out.neM).ftForm
   obtain ⟨k0,d0,e01⟩:=(HB.out.st 0 HMO.out.neN).ftForm
   rw [HMO.out.szM 0 HMO.out.neM] at e00
   rw [HMO.out.szN 0 HMO.out.neN] at e01
   rw [e00] at p0
   rw [e01] at r0
   have hm0:0<M.length:=HMO.out.neM
   have hn0:0<N.length:=HMO.out.neN
   have hml:=HMO.out.lM
   have hnl:=HMO.out.lN
   have q1:((M.length:Int)==0)=false:=by rw [beq_eq_false_iff_ne];omega
   have q2:((N.length:Int)==0)=false:=by rw [beq_eq_false_iff_ne];omega
   have q3:¬ (n:Int)<(m:Int):=by have:=HMO.out.le;omega
   have q4:(0:Int)<(M.length:Int):=by omega
   have q5:(0:Int)<(N.length:Int):=by omega
   have HCL:=hid (hold2 (W0:=w5) ⟨Below.refl _ w5,p0,r0⟩ (Below.refl _ w5))
   clear e00 e01
   go_upto_region 11 with fail
   go_cut [126] from 18 to 126 (fun x126 wx=>x126 = .bool false∧Hid (Below w5.heap.size w5 wx))
   case first =>
    go_quiet (fail)
    go_wp2
    go_meet
    exact ⟨congrArg Value.bool (decide_eq_false (by have:=HMO.out.le;omega)),hid (below_drewN (Below.refl w5.heap.size w5) nq)⟩
   case rest =>
   obtain ⟨rfl,HV0⟩:=hcut
   rename World=>w6
   clear p0 r0 q1 q2 q3
   go_upto_block 0 with fail
   go_cut [4,6,12,13] from 18 to 165 (fun x4 x6 x12 x13 wx=>Hid (Below w5.heap.size w5 wx))
   case first =>
    go_wp2_with fail
    go_loopw [12] (fun x wr=>∃ i:Nat,i≤N.length∧x = .int .i64 i∧Hid (Below w5.heap.size w5 wr)) (fun x _=>N.length-(intOf x).toNat)
    case atStart=>exact ⟨0,Nat.zero_le _,rfl,HV0⟩
    clear HV0
    obtain ⟨i,hi,rfl,hV⟩:=hrel
    obtain ⟨_,p0,r0⟩:=hold2 HCL.out hV.out
    by_cases hil:i<N.length
    ·have i1:(i:Int)<(N.length:Int):=by omega
     by_cases hmn:m=n
     ·have i2:((n:Int)==(m:Int))=true:=by rw [beq_iff_eq];omega
      have i9:(n==m)=true:=by rw [beq_iff_eq];omega
      have HMN:=hid hmn
      clear hmn
      have HS2:=hid (fun (j:Nat) (hj:j<M.length) (W:World) (hz:Below w5.heap.size w5 W)=>samesets_any [M[j]] [N[i]] (.slice (some ⟨bA,oA+j,none⟩) 1 (ac-j)) (.slice (some ⟨bB,oB+i,none⟩) 1 (bc-i)) _ _ W ((HA.out.later hz).one hj _) ((HB.out.later hz).one hil _) (by simp) (by simp) (fun x hx=>by rw [List.mem_singleton.1 hx,HMO.out.szM j hj];have:=HMO.out.m2;omega))
      have HE0:Hid (false=isB M N[i] 0):=hid (by unfold isB;simp)
      have HE1:Hid (isB M N[i] M.length=true):=hid (by unfold isB;rw [List.take_length];exact decide_eq_true (HMO.out.sub HMN.out _ (List.getElem_mem hil)))
      have i3:(i:Int)+1≤(bc:Int):=by omega
      have i4:(0:Int)≤(i:Int):=by omega
      have i5:(i:Int)≤(i:Int)+1:=by omega
      go_upto_region 14 with fail
      go_quiet (fail)
      have HV1:=hid (below_drewN hV.out nq)
      clear p0 r0 hV
      go_wp2
      clear i1 i2 i9
      go_loopw [6,13] (fun y x wi=>∃ (bb:Bool) (j:Nat),j≤M.length∧y = .bool bb∧x = .int .i64 j∧Hid (bb=isB M N[i] j)∧Hid (Below w5.heap.size w5 wi)) (fun _ x _=>M.length-(intOf x).toNat)
      case atStart=>exact ⟨false,0,Nat.zero_le _,rfl,rfl,HE0,HV1⟩
      clear HE0 HV1
      obtain ⟨bb,j,hj,rfl,rfl,hbb,hV⟩:=hrel
      by_cases hjl:j<M.length
      ·have j1:(j:Int)<(M.length:Int):=by omega
       cases bb with
       | true =>
        have HBN:Hid (true=isB M N[i] (j+1)):=hid (by rw [is_step hjl,← hbb.out];rfl)
        go_upto_region 20 with fail
        go_quiet (fail)
        have HV2:=hid (below_drewN hV.out nq)
        go_wp2
        go_roundw
        case rel=>exact ⟨true,j+1,by omega,rfl,by go_num,HBN,HV2⟩
        case measure=>simp [intOf];omega
       | false =>
        obtain ⟨b2,hb2⟩:∃ b2,decide ([M[j]]=[N[i]])=b2:=⟨_,rfl⟩
        have HBN:Hid (b2=isB M N[i] (j+1)):=hid (by rw [is_step hjl,← hbb.out,hb2];rfl)
        have HS3:=hid (HS2.out j hjl)
        rw [hb2] at HS3
        have j3:(j:Int)+1≤(ac:Int):=by omega
        have j4:(0:Int)≤(j:Int):=by omega
        have j5:(j:Int)≤(j:Int)+1:=by omega
        have j6:IntKind.i64.wrap ((j:Int)+1)=(j:Int)+1:=IntWalk.i64_in _ (by omega)
        have i6:IntKind.i64.wrap ((i:Int)+1)=(i:Int)+1:=IntWalk.i64_in _ (by omega)
        have j8:¬ ac=j:=by omega
        have i8:¬ bc=i:=by omega
        have j7:((j:Int)+1).toNat=j+1:=by omega
        have i7:((i:Int)+1).toNat=i+1:=by omega
        have hdr:Below w5.heap.size w5 wr.drew:=hV.out.drew
        go_upto_region 20 with fail
        clear hbb hb2 j1
        go_region_held3 (fun w'=>Below w5.heap.size w5 w') (first | exact hdr | assumption | fail) (first | (go_at_call 14;(with_reducible refine (HS3.out _ hdr).mono ?_);rintro e w7 ⟨rfl,hb7⟩;have hn7:=below_step hdr hb7;have HV2:=hid hn7) | fail)
        go_wp2
        go_roundw
        case rel=>exact ⟨b2,j+1,by omega,rfl,by go_num,HBN,HV2⟩
        case measure=>simp [intOf];omega
      ·have j1:¬ (j:Int)<(M.length:Int):=by omega
       have hje:j=M.length:=by omega
       have hbt:bb=true:=by rw [hbb.out,hje];exact HE1.out
       subst hbt
       clear hje hbb
       go_wp2
       go_roundw
       case rel=>exact ⟨i+1,by omega,by go_num,hV⟩
       case measure=>simp [intOf];omega
     ·have i2:((n:Int)==(m:Int))=false:=by rw [beq_eq_false_iff_ne];omega
      have i3:(n==m)=false:=by rw [beq_eq_false_iff_ne];omega
      go_upto_region 14 with fail
      go_quiet (fail)
      have HV1:=hid (below_drewN hV.out nq)
      go_wp2
      go_meet
      exact HV1
    ·have i1:¬ (i:Int)<(N.length:Int):=by omega
     go_upto_region 14 with fail
     go_quiet (fail)
     have HV1:=hid (below_drewN hV.out nq)
     go_wp2
     go_meet
     exact HV1
   case rest =>
   rename World=>w7
   have HV:=hcut
   obtain ⟨e0,e1,e2,e3,_,_,_,_,_,_,e10⟩:=case_cells K0.out (below_step HZB.out HV.out)
   have hdr:=hold5 (W0:=w5) ⟨HV.out,e0,e1,e2,e3,e10⟩ ((Below.refl _ w7).drew)
   have HN1:=hid (fun (W:World) (hz:Below w5.heap.size w5 W)=>HNX.out _ HPM.out HPN.out _ _ _ _ _ W (below_step HZB.out hz) (HPL.out W (below_step HZ5.out hz)))
   clear e0 e1 e2 e3 e10 hcut
   go_upto_region 23 with fail
   go_region_held3 (fun w'=>Below w5.heap.size w5 w'∧w'.cell? ⟨P,0,none⟩=some v1∧w'.cell? ⟨P,1,none⟩=some v2∧w'.cell? ⟨P,2,none⟩=some (.slice a3 S.ss.length c3)∧w'.cell? ⟨P,3,none⟩=some (.slice a4 S.cs.length c4)∧w'.cell? ⟨P,10,none⟩=some (.slice ha Hs.length hac)) (first | exact hdr | assumption | fail) (first | (go_at_call 24;(with_reducible refine (HN1.out _ hdr.1).mono ?_);rintro e w8 ⟨bi,ln,en,rfl,hnp,hb8⟩;have hn8:=hold5 hdr hb8;have HNP:=hid hnp) | fail)
   have HR:=hid (nxt_of HOK.out.1 (by omega) (by omega) HAL.out (fun H hH=>HAL.out H (List.mem_of_mem_take hH)) (by rw [List.length_take];omega) HLS.out HNP.out)
   obtain ⟨h5,j,hj,rfl,rfl⟩:=HR.out
   subst h5
   clear hdr HN1 hb8 HR hnp HNP HNX
   obtain ⟨HV8,e0,e1,e2,e3,e10⟩:=hn8
   have g1:¬ (j:Int)<0:=by omega
   have g2:¬ (Hs.length:Int)≤(j:Int):=by omega
   have g3:(j:Int)<(Hs.length:Int):=by omega
   have g4:(0:Int)≤(j:Int):=by omega
   obtain ⟨ix,hix⟩:∃ ix:Nat,bt.tmod (M.length:Int)=(ix:Int):=⟨(bt % (M.length:Int)).toNat,by rw [Int.tmod_eq_emod_of_nonneg HBT.out.1];have:=Int.emod_nonneg bt (b:=(M.length:Int)) (by omega);omega⟩
   have hil:ix<M.length:=by
    rw [Int.tmod_eq_emod_of_nonneg HBT.out.1] at hix
    have:=Int.emod_lt_of_pos bt (b:=(M.length:Int)) (by omega)
    omega
   have g5:IntKind.i64.wrap bt=bt:=IntWalk.i64_in _ (by have:=HBT.out;omega)
   have g6:IntKind.i64.wrap (ix:Int)=(ix:Int):=IntWalk.i64_in _ (by omega)
   have g7:((M.length:Int)==0)=false:=by rw [beq_eq_false_iff_ne];omega
   have g8:(ix:Int)<(M.length:Int):=by omega
   have g9:¬ M=[]:=fun q=>by rw [q] at hil;exact absurd hil (Nat.not_lt_zero _)
   have g10:¬ (M.length:Int)=0:=by omega
   have g11:¬ M.length=0:=by omega
   have hbz:=below_step HZB.out HV8
   obtain ⟨bH,oH,_,ev,_,y0,y1,y2⟩:=(HHV.out w8 hbz).at' hj
   cases ev
   obtain ⟨⟨ka,kc,ek⟩,⟨sa,sc,es⟩,⟨ca,cc,ec⟩⟩:=((HHV.out w8 hbz).hd j hj).forms
   obtain ⟨_,_,_,ev,_,z0⟩:=(HA.out.later HV8).at' hil
   cases ev
   obtain ⟨fx,cx,ex⟩:=((HA.out.later HV8).st ix hil).ftForm
   rw [HMO.out.szM ix hil] at ex
   have HOKX:=hid ((lsP_ok HLS.out).1 M[ix] (List.getElem_mem hil))
   have HE2:=he_in (B:=B) (S:=S) (F:=M[ix]) (H:=Hs[j]) (fltE_ok.2 ⟨HOK.out.1,HOKX.out.2,HOKX.out.1⟩) (HAL.out _ (List.getElem_mem hj))
   have HH2:=hid (fun (W:World) (hz:Below w5.heap.size w5 W)=>HHE.out M[ix] (g ix) (by have:=HOKX.out.2;omega) j hj W (below_step HZB.out hz) ((HA.out.later hz).st ix hil))
   rw [HE2.1,HE2.2,ek,es,ec,ex] at HH2
   rw [ek] at y0
   rw [es] at y1
   rw [ec] at y2
   rw [ex] at z0
   obtain ⟨pl,hpl⟩:∃ pl,hearL S B M[ix] (onH Hs[j])=pl:=⟨_,rfl⟩
   rw [hpl] at HH2
   have HPLX:=hid hpl
   obtain ⟨kl,hkl⟩:∃ n,Hs[j].ks.length=n:=⟨_,rfl⟩
   obtain ⟨sl,hsl⟩:∃ n,Hs[j].ss.length=n:=⟨_,rfl⟩
   obtain ⟨cl,hcl⟩:∃ n,Hs[j].cs.length=n:=⟨_,rfl⟩
   rw [hkl,hsl,hcl] at HH2
   rw [hkl] at y0 ek
   rw [hsl] at y1 es
   rw [hcl] at y2 ec
   have HEK:=hid (show hk j=_∧hs j=_∧hc j=_ from ⟨ek,es,ec⟩)
   have hdr:=hold9 (W0:=w5) ⟨HV8,e0,e1,e2,e3,e10,z0,y0,y1,y2⟩ ((Below.refl _ w8).drew)
   clear HE2 ek es ec ex hpl hkl hsl hcl hbz z0 y0 y1 y2 e0 e1 e2 e3 HV8 HHE
   go_upto_region 26 with fail
   clear e10
   go_region_held3 (fun w'=>Below w5.heap.size w5 w'∧w'.cell? ⟨P,0,none⟩=some v1∧w'.cell? ⟨P,1,none⟩=some v2∧w'.cell? ⟨P,2,none⟩=some (.slice a3 S.ss.length c3)∧w'.cell? ⟨P,3,none⟩=some (.slice a4 S.cs.length c4)∧w'.cell? ⟨P,10,none⟩=some (.slice (some ⟨bH,oH,none⟩) Hs.length hac)∧w'.cell? ⟨bA,oA+ix,none⟩=some (.slice fx m cx)∧w'.cell? ⟨bH,oH+j * 3,none⟩=some (.slice ka kl kc)∧w'.cell? ⟨bH,oH+j * 3+1,none⟩=some (.slice sa sl sc)∧w'.cell? ⟨bH,oH+j * 3+2,none⟩=some (.slice ca cl cc)) (first | exact hdr | assumption | fail) (first | (go_at_call 16;(with_reducible refine (HH2.out _ hdr.1).mono ?_);rintro e w9 ⟨u,rfl,hrow9,hb9⟩;obtain ⟨ua,un,rfl⟩:=own_form hrow9;have hn9:=hold9 hdr hb9;have HPR:=hid hrow9) | fail)
   obtain ⟨HV9,e0,e1,e2,e3,e10,z0,y0,y1,y2⟩:=hn9
   have HCC:=hid (fun (z:World) (hz:Below w9.heap.size w9 z)=>hold9 (W0:=w5) ⟨HV9,e0,e1,e2,e3,e10,z0,y0,y1,y2⟩ hz)
   clear hdr hb9 HH2 hrow9 e0 e1 e2 e3 e10 z0 y0 y1 y2
   go_upto_region 27 with fail
   obtain ⟨T0,hT0⟩:∃ T,hdT S B F (Hs.take k)=T:=⟨_,rfl⟩
   have hT0l:T0.length=k:=by rw [← hT0,hd_len,List.length_take,HKK.out];omega
   have HT0:=hid hT0
   rw [hT0] at HPL HPM
   have hz9:=(below_step HZ5.out HV9)
   have HK30:=hid (show k≤1000 by have:=HKK.out;omega)
   have HTL0:=hid hT0l
   have HPLW:=hid (fun (W:World) (hz:Below w9.heap.size w9 W)=>HPL.out W (below_step hz9 hz))
   have HHN:=hid (fun (W:World) (hz:Below w9.heap.size w9 W)=>show HnRd W (.slice ka kl kc) (.slice sa sl sc) (.slice ca cl cc) Hs[j] from by
    have h:=(HHV.out W (below_step HZB.out (below_step HV9 hz))).hd j hj
    rwa [HEK.out.1,HEK.out.2.1,HEK.out.2.2] at h)
   have HPP:=hid (fun (W:World) (hz:Below w9.heap.size w9 W)=>show ARd W (.slice ua pl.length un) 2 (pl.map ppC) from (ARd.of_pps HPR.out).later hz)
   have HSM:=hid (show ∀ t∈T0++[⟨Hs[j],pl⟩],HnSm t.h∧t.l.length≤1000000 from fun t ht=>by
    rcases List.mem_append.1 ht with ht | ht
    ·exact HPM.out t ht
    ·rw [List.mem_singleton.1 ht,← HPLX.out]
     exact hd_sm (B:=B) (F:=M[ix]) (Hs:=Hs) HHM.out HOK.out.1 _ (List.mem_map.2 ⟨_,List.getElem_mem hj,rfl⟩))
   obtain ⟨lf,hlf⟩:∃ n,leftN S B M (onH Hs[j])=n:=⟨_,rfl⟩
   have HLF:=hid hlf
   rw [hlf]
   have HLC:=hid (fun (W:World) (hz:Below w9.heap.size w9 W) (V:Value) (p1 p2 p3 p4:Nat→Value) (htl:TlRd W V (T0++[⟨Hs[j],pl⟩]) p1 p2 p3 p4)=>(HLE.out _ HSM.out (by rw [List.length_append,List.length_singleton,HTL0.out];have:=HK30.out;omega) V p1 p2 p3 p4 W (below_step HZB.out (below_step HV9 hz)) htl).mono (fun e w' (h:LeaE S B _ 2 W e w')=>show ∃ (cv:Value),e = .returned (.tuple #[cv,.int .i64 0])∧CvW W.heap.size w' cv m lf∧Below W.heap.size W w' from by
    obtain ⟨cv,C,g9,n9,he,hl,hst,hb⟩:=h
    rw [← HT0.out,← HPLX.out] at hl
    obtain ⟨h1,h2,h3,m',h4,h5⟩:=one_of HOK.out.1 (by rw [List.length_take];omega) (fun H hH=>HAL.out H (List.mem_of_mem_take hH)) (HAL.out _ (List.getElem_mem hj)) h3 h4 HLS.out (List.getElem_mem hil) hl
    have hm':m'=m:=(h4 0 HMO.out.neM).symm.trans (HMO.out.szM 0 HMO.out.neM)
    subst h1
    subst hm'
    rw [HLF.out] at h2
    exact ⟨cv,he,⟨C,g9,⟨h3,h2,h5⟩,hst⟩,hb⟩))
   clear hlf hT0l hT0 hz9 HSM HPL HPM HPN HPR HHV HLE
   have hmxx:Tryz.prog.follows .mixedOrders=true:=by kernel_rfl
   refine wp_normal (wp_region_flowN (fun xX=>{ tmps:=#[.agg #[v1,v2,.slice a3 S.ss.length c3,.slice a4 S.cs.length c4,.slice fa F.length fc,vk,vs,vc,tv,.int .i64 most,.slice (some ⟨bH,oH,none⟩) Hs.length hac],.int .u8 bt,.pointer (some ⟨P,0,none⟩),undef,u4,.slice ta Hs.length tc,u6,.int .i64 (k:Int),.slice (some ⟨bA,oA,none⟩) M.length ac,.int .i64 0,.slice (some ⟨bB,oB,none⟩) N.length bc,(xX 11),u12,u13,.int .i64 (j:Int),.int .i64 (lf:Int),.slice ua pl.length un,(xX 17),u18,u19,u20,u21,u22,u23,u24,u25,u26,u27,u28,u29,u30,u31,u32,u33,u34,u35,u36,u37,u38,u39,u40,u41,u42,u43,u44,u45,u46,u47,u48,u49,u50,u51,u52,u53,u54,u55,u56,u57,u58,u59,u60,u61,u62,u63,u64,u65,u66,u67,u68,u69,u70,u71,u72,u73,u74,u75,u76,u77,u78,u79,u80,u81,u82,u83,u84,u85,u86,u87,u88,u89,u90,u91,u92,u93,u94,u95,u96,u97,u98,u99,u100,u101,u102,u103,u104,u105,u106,u107,u108,u109,u110,u111,u112,u113,u114,u115,u116,u117,u118,u119,u120,u121,u122,u123,u124,u125,u126,u127,u128,u129,u130,u131,u132,u133,u134,u135,u136,u137,u138,u139,u140,u141,u142,u143,u144,u145,u146,u147,u148,u149,u150,u151,u152,u153,u154,u155,u156,u157,u158,u159,u160,u161,u162,u163,u164,u165,.tuple #[.int .i64 (j:Int),.int .i64 (lf:Int),.int .i64 0],.pointer (some ⟨P,0,none⟩),.agg #[v1,v2,.slice a3 S.ss.length c3,.slice a4 S.cs.length c4],.slice ta Hs.length tc,.int .i64 (k:Int),.slice ta k tc,.pointer (some ⟨P,10,none⟩),.slice (some ⟨bH,oH,none⟩) Hs.length hac,.tuple #[.int .i64 (j:Int),.int .i64 (lf:Int),.int .i64 0],.int .i64 (j:Int),.int .i64 (lf:Int),.int .i64 0,.int .i64 0,.bool false,.bool false,.int .i64 (j:Int),.bool false,.bool false,.bool false,.int .i64 (j:Int),.pointer (some ⟨P,10,none⟩),.slice (some ⟨bH,oH,none⟩) Hs.length hac,.int .i64 (Hs.length:Int),.bool false,.bool false,.tuple #[.slice ua pl.length un,.int .i64 0],.pointer (some ⟨P,0,none⟩),.agg #[v1,v2,.slice a3 S.ss.length c3,.slice a4 S.cs.length c4],.slice (some ⟨bA,oA,none⟩) M.length ac,.int .u8 bt,.int .i64 bt,.slice (some ⟨bA,oA,none⟩) M.length ac,.int .i64 (M.length:Int),.int .i64 (ix:Int),.pointer (some ⟨bA,oA+ix,none⟩),.slice fx m cx,.pointer (some ⟨P,10,none⟩),.slice (some ⟨bH,oH,none⟩) Hs.length hac,.int .i64 (j:Int),.pointer (some ⟨bH,oH+j * 3,none⟩),.agg #[.slice ka kl kc,.slice sa sl sc,.slice ca cl cc],.tuple #[.slice ua pl.length un,.int .i64 0],.slice ua pl.length un,.int .i64 0,(xX 210),(xX 211),(xX 212),(xX 213),(xX 214),(xX 215),(xX 216),(xX 217),(xX 218),(xX 219),(xX 220),(xX 221),(xX 222),(xX 223),(xX 224),(xX 225),(xX 226),(xX 227),(xX 228),(xX 229),undef,undef,undef,undef,undef,undef,undef,undef,undef,undef,undef,undef,undef,undef,undef,undef,undef,undef,undef,undef,undef,undef,undef,undef,undef,undef,undef,undef,undef,undef,undef],defers:=[] }) (fun iI v z=>match iI with
    | 0=>v = .pointer (some ⟨P,0,none⟩)
    | 1=>v = .agg #[v1,v2,.slice a3 S.ss.length c3,.slice a4 S.cs.length c4]
    | 2=>∃ a2,v = .slice (some ⟨a2,0,none⟩) 0 0∧Blk z a2 58 #[]∧w9.heap.size≤a2
    | 3=>v = .slice ta Hs.length tc
    | 4=>v = .int .i64 (k:Int)
    | 5=>v = .slice ta k tc
    | 6=>∃ V1,v=V1∧z.ownsRow w9.heap.size 58 4 V1 k (hrC hk hs hc gh' k)
    | 7=>v = .pointer (some ⟨P,10,none⟩)
    | 8=>v = .slice (some ⟨bH,oH,none⟩) Hs.length hac
    | 9=>v = .int .i64 (j:Int)
    | 10=>v = .pointer (some ⟨bH,oH+j * 3,none⟩)
    | 11=>v = .agg #[.slice ka kl kc,.slice sa sl sc,.slice ca cl cc]
    | 12=>v = .slice ua pl.length un
    | 13=>v = .agg #[.slice ka kl kc,.slice sa sl sc,.slice ca cl cc,.slice ua pl.length un]
    | 14=>∃ b4,v = .slice (some ⟨b4,0,none⟩) 1 1∧Blk z b4 58 #[.slice ka kl kc,.slice sa sl sc,.slice ca cl cc,.slice ua pl.length un]
    | 15=>∃ V2,v=V2∧z.ownsRow w9.heap.size 58 4 V2 (k+1) (hrC hk hs hc gh' k++[.slice ka kl kc,.slice sa sl sc,.slice ca cl cc,.slice ua pl.length un])
    | 16=>∃ cv,v = .tuple #[cv,.int .i64 0]∧CvW w9.heap.size z cv m lf
    | 17=>∃ cv,v = .tuple #[cv,.int .i64 0]∧CvW w9.heap.size z cv m lf
    | 18=>∃ cv,v=cv∧CvW w9.heap.size z cv m lf
    | 19=>v = .int .i64 0
    | 20=>∃ cv,v=cv∧CvW w9.heap.size z cv m lf
    | 21=>v = .int .i64 0
    | _=>True) [(1,0),(5,3),(5,4),(6,2),(6,5),(8,7),(10,8),(10,9),(11,10),(13,11),(13,12),(14,13),(15,6),(15,14),(16,1),(16,15),(17,16),(18,17),(19,17),(20,18),(21,19),(21,20)] (JA 21 21 w9 (fun xX z=>∃ cv,xX 17=cv∧xX 11 = .int .i64 0∧CvW w9.heap.size z cv m lf∧Below w9.heap.size w9 z)) (fun n=>(#[.agg #[v1,v2,.slice a3 S.ss.length c3,.slice a4 S.cs.length c4,.slice fa F.length fc,vk,vs,vc,tv,.int .i64 most,.slice (some ⟨bH,oH,none⟩) Hs.length hac],.int .u8 bt,.pointer (some ⟨P,0,none⟩),undef,u4,.slice ta Hs.length tc,u6,.int .i64 (k:Int),.slice (some ⟨bA,oA,none⟩) M.length ac,.int .i64 0,.slice (some ⟨bB,oB,none⟩) N.length bc,.int .i64 0,u12,u13,.int .i64 (j:Int),.int .i64 (lf:Int),.slice ua pl.length un,undef,u18,u19,u20,u21,u22,u23,u24,u25,u26,u27,u28,u29,u30,u31,u32,u33,u34,u35,u36,u37,u38,u39,u40,u41,u42,u43,u44,u45,u46,u47,u48,u49,u50,u51,u52,u53,u54,u55,u56,u57,u58,u59,u60,u61,u62,u63,u64,u65,u66,u67,u68,u69,u70,u71,u72,u73,u74,u75,u76,u77,u78,u79,u80,u81,u82,u83,u84,u85,u86,u87,u88,u89,u90,u91,u92,u93,u94,u95,u96,u97,u98,u99,u100,u101,u102,u103,u104,u105,u106,u107,u108,u109,u110,u111,u112,u113,u114,u115,u116,u117,u118,u119,u120,u121,u122,u123,u124,u125,u126,u127,u128,u129,u130,u131,u132,u133,u134,u135,u136,u137,u138,u139,u140,u141,u142,u143,u144,u145,u146,u147,u148,u149,u150,u151,u152,u153,u154,u155,u156,u157,u158,u159,u160,u161,u162,u163,u164,u165,.tuple #[.int .i64 (j:Int),.int .i64 (lf:Int),.int .i64 0],.pointer (some ⟨P,0,none⟩),.agg #[v1,v2,.slice a3 S.ss.length c3,.slice a4 S.cs.length c4],.slice ta Hs.length tc,.int .i64 (k:Int),.slice ta k tc,.pointer (some ⟨P,10,none⟩),.slice (some ⟨bH,oH,none⟩) Hs.length hac,.tuple #[.int .i64 (j:Int),.int .i64 (lf:Int),.int .i64 0],.int .i64 (j:Int),.int .i64 (lf:Int),.int .i64 0,.int .i64 0,.bool false,.bool false,.int .i64 (j:Int),.bool false,.bool false,.bool false,.int .i64 (j:Int),.pointer (some ⟨P,10,none⟩),.slice (some ⟨bH,oH,none⟩) Hs.length hac,.int .i64 (Hs.length:Int),.bool false,.bool false,.tuple #[.slice ua pl.length un,.int .i64 0],.pointer (some ⟨P,0,none⟩),.agg #[v1,v2,.slice a3 S.ss.length c3,.slice a4 S.cs.length c4],.slice (some ⟨bA,oA,none⟩) M.length ac,.int .u8 bt,.int .i64 bt,.slice (some ⟨bA,oA,none⟩) M.length ac,.int .i64 (M.length:Int),.int .i64 (ix:Int),.pointer (some ⟨bA,oA+ix,none⟩),.slice fx m cx,.pointer (some ⟨P,10,none⟩),.slice (some ⟨bH,oH,none⟩) Hs.length hac,.int .i64 (j:Int),.pointer (some ⟨bH,oH+j * 3,none⟩),.agg #[.slice ka kl kc,.slice sa sl sc,.slice ca cl cc],.tuple #[.slice ua pl.length un,.int .i64 0],.slice ua pl.length un,.int .i64 0,undef,undef,undef,undef,undef,undef,undef,undef,undef,undef,undef,undef,undef,undef,undef,undef,undef,undef,undef,undef,undef,undef,undef,undef,undef,undef,undef,undef,undef,undef,undef,undef,undef,undef,undef,undef,undef,undef,undef,undef,undef,undef,undef,undef,undef,undef,undef,undef,undef,undef,undef]:Array Value).getD n undef) rfl hmxx (by kernel_rfl) (by kernel_rfl) (by kernel_rfl) (ja_start (of_decide_eq_true (by kernel_rfl))) (fun ℓ ℓ' xX w h hj=>ja_cong (of_decide_eq_true (by kernel_rfl)) (of_decide_eq_true (by kernel_rfl)) ℓ ℓ' xX w h hj) ?put ?step ?done)
   case put =>
    intro iI oO dD ho hd xX vV
    match iI,ho with
    | 0,ho | 1,ho | 2,ho | 3,ho | 4,ho | 5,ho | 6,ho | 7,ho | 8,ho | 9,ho | 10,ho | 11,ho | 12,ho | 13,ho | 14,ho | 15,ho | 16,ho | 17,ho | 18,ho | 19,ho | 20,ho | 21,ho => obtain rfl:=oj ho;obtain rfl:=oj hd;rfl
    | n+22,ho=>exact absurd (Array.getElem?_eq_some_iff.1 ho).1 (by simp)
   case step =>
    intro iI oO ho ℓ xX z hj hli hup hdl hdep K hK
    match iI,ho with
    | 0,ho =>
     obtain rfl:=oj ho
     have hls:ℓ 21=false:=hup 12 21 (by kernel_rfl)
     have hPl:=fun xx w' (hb:Below z.heap.size z w')=>ja_plain (i:=0) (x':=xx) hj (by decide) (by decide) hls hb
     clear hdep ho hup
     dsimp only at hK ⊢
     refine wpOp_step rfl (fun K2 hK2=>?_)
     go_simp
     exact hK2 _ _ (hK _ _ (hPl _ _ (Below.refl _ _)) (fun _ _ _ _ h=>h) rfl)
    | 1,ho =>
     obtain rfl:=oj ho
     have q0:xX 211 = .pointer (some ⟨P,0,none⟩):=hdep 0 (by kernel_rfl) _ _ rfl rfl
     have hls:ℓ 21=false:=hup 12 21 (by kernel_rfl)
     have hPl:=fun xx w' (hb:Below z.heap.size z w')=>ja_plain (i:=1) (x':=xx) hj (by decide) (by decide) hls hb
     have hz:=hj.1 (hup 12 21 (by kernel_rfl))
     obtain ⟨_,y0,y1,y2,y3,y4,_,y5,y6,y7⟩:=HCC.out z hz
     clear hdep ho hup
     dsimp only at hK ⊢
     simp only [q0] at hK ⊢
     refine wpOp_step rfl (fun K2 hK2=>?_)
     go_simp
     exact hK2 _ _ (hK _ _ (hPl _ _ (Below.refl _ _)) (fun _ _ _ _ h=>h) rfl)
    | 2,ho =>
     obtain rfl:=oj ho
     have hls:ℓ 21=false:=hup 12 21 (by kernel_rfl)
     have hPl:=fun xx w' (hb:Below z.heap.size z w')=>ja_plain (i:=2) (x':=xx) hj (by decide) (by decide) hls hb
     have hz:=hj.1 (hup 12 21 (by kernel_rfl))
     clear hdep ho hup
     dsimp only at hK ⊢
     refine wpOp_step rfl (fun K2 hK2=>?_)
     go_simp
     have hb:Below z.heap.size z (z.alloc (.cells #[] 58)):=new_below _ _
     refine hK2 _ _ (hK _ _ (hPl _ _ hb) ?_ ⟨z.heap.size,rfl,Blk.new z _ _,hz.size⟩)
     intro jj v' hlj hp h
     match jj,hlj,hp,h with
     | 0,hlj,hp,h=>exact h
     | 1,hlj,hp,h=>exact h
     | 2,hlj,hp,h=>obtain ⟨a,e,h1,h2⟩:=h;exact ⟨a,e,h1.below hb,h2⟩
     | 3,hlj,hp,h=>exact h
     | 4,hlj,hp,h=>exact h
     | 5,hlj,hp,h=>exact h
     | 6,hlj,hp,h=>obtain ⟨V,e,h⟩:=h;exact ⟨V,e,row_later h hb⟩
     | 7,hlj,hp,h=>exact h
     | 8,hlj,hp,h=>exact h
     | 9,hlj,hp,h=>exact h
     | 10,hlj,hp,h=>exact h
     | 11,hlj,hp,h=>exact h
     | 12,hlj,hp,h=>exact h
     | 13,hlj,hp,h=>exact h
     | 14,hlj,hp,h=>obtain ⟨b,e,h⟩:=h;exact ⟨b,e,h.below hb⟩
     | 15,hlj,hp,h=>obtain ⟨V,e,h⟩:=h;exact ⟨V,e,row_later h hb⟩
     | 16,hlj,hp,h=>obtain ⟨cv,e,h⟩:=h;exact ⟨cv,e,h.later hb⟩
     | 17,hlj,hp,h=>obtain ⟨cv,e,h⟩:=h;exact ⟨cv,e,h.later hb⟩
     | 18,hlj,hp,h=>obtain ⟨cv,e,h⟩:=h;exact ⟨cv,e,h.later hb⟩
     | 19,hlj,hp,h=>exact h
     | 20,hlj,hp,h=>obtain ⟨cv,e,h⟩:=h;exact ⟨cv,e,h.later hb⟩
     | 21,hlj,hp,h=>exact h
     | _+22,_,_,_=>trivial
    | 3,ho =>
     obtain rfl:=oj ho
     have hls:ℓ 21=false:=hup 12 21 (by kernel_rfl)
     have hPl:=fun xx w' (hb:Below z.heap.size z w')=>ja_plain (i:=3) (x':=xx) hj (by decide) (by decide) hls hb
     clear hdep ho hup
     dsimp only at hK ⊢
     refine wpOp_step rfl (fun K2 hK2=>?_)
     go_simp
     exact hK2 _ _ (hK _ _ (hPl _ _ (Below.refl _ _)) (fun _ _ _ _ h=>h) rfl)
    | 4,ho =>
     obtain rfl:=oj ho
     have hls:ℓ 21=false:=hup 12 21 (by kernel_rfl)
     have hPl:=fun xx w' (hb:Below z.heap.size z w')=>ja_plain (i:=4) (x':=xx) hj (by decide) (by decide) hls hb
     clear hdep ho hup
     dsimp only at hK ⊢
     refine wpOp_step rfl (fun K2 hK2=>?_)
     go_simp
     exact hK2 _ _ (hK _ _ (hPl _ _ (Below.refl _ _)) (fun _ _ _ _ h=>h) rfl)
    | 5,ho =>
     obtain rfl:=oj ho
     have q3:xX 214 = .slice ta Hs.length tc:=hdep 3 (by kernel_rfl) _ _ rfl rfl
     have q4:xX 215 = .int .i64 (k:Int):=hdep 4 (by kernel_rfl) _ _ rfl rfl
     have hls:ℓ 21=false:=hup 12 21 (by kernel_rfl)
     have hPl:=fun xx w' (hb:Below z.heap.size z w')=>ja_plain (i:=5) (x':=xx) hj (by decide) (by decide) hls hb
     clear hdep ho hup
     dsimp only at hK ⊢
     simp only [q3,q4] at hK ⊢
     refine wpOp_step rfl (fun K2 hK2=>?_)
     go_simp
     exact hK2 _ _ (hK _ _ (hPl _ _ (Below.refl _ _)) (fun _ _ _ _ h=>h) rfl)
    | 6,ho =>
     obtain rfl:=oj ho
     have h2:∃ a2,xX 213 = .slice (some ⟨a2,0,none⟩) 0 0∧Blk z a2 58 #[]∧w9.heap.size≤a2:=hdep 2 (by kernel_rfl) _ _ rfl rfl
     obtain ⟨a2,q2,k2,l2⟩:=h2
     have q5:xX 216 = .slice ta k tc:=hdep 5 (by kernel_rfl) _ _ rfl rfl
     have hls:ℓ 21=false:=hup 12 21 (by kernel_rfl)
     have hPl:=fun xx w' (hb:Below z.heap.size z w')=>ja_plain (i:=6) (x':=xx) hj (by decide) (by decide) hls hb
     have hz:=hj.1 (hup 12 21 (by kernel_rfl))
     have n15:=hup 12 15 (by kernel_rfl)
     have n16:=hup 12 16 (by kernel_rfl)
     have n17:=hup 12 17 (by kernel_rfl)
     have n18:=hup 12 18 (by kernel_rfl)
     have n20:=hup 12 20 (by kernel_rfl)
     clear hdep ho hup
     dsimp only at hK ⊢
     simp only [q2,q5] at hK ⊢
     refine wpOp_step rfl (fun K2 hK2=>?_)
     obtain ⟨V9,z1,hr,ho,hg⟩:=append_tls z w9.heap.size (.slice (some ⟨a2,0,none⟩) 0 0) 0 [] (blk_row0 (k:=4) k2 l2) (HPLW.out z hz) (by rw [HTL0.out];have:=HK30.out;omega) hz.size
     rw [HTL0.out,Nat.zero_add,List.nil_append] at ho
     have hb9:Below w9.heap.size w9 z1:=hz.grown hg hz.size (fun _ e=>row_ge (blk_row0 (k:=4) k2 l2) e)
     refine step_appendK rfl _ _ 33 33 rfl (.slice (some ⟨a2,0,none⟩) 0 0) (.slice ta k tc) (by simp [Act.eval]) (by simp [Act.eval]) hr ?_
     refine hK2 _ _ (hK _ _ (ja_keep (by decide) hls hb9) ?_ ⟨V9,rfl,ho⟩)
     intro jj v' hlj hp h
     match jj,hlj,hp,h with
     | 0,hlj,hp,h=>exact h
     | 1,hlj,hp,h=>exact h
     | 2,hlj,hp,h=>exact absurd hp (onlyN_spec (i:=6) (j:=2) (by kernel_rfl) hdl)
     | 3,hlj,hp,h=>exact h
     | 4,hlj,hp,h=>exact h
     | 5,hlj,hp,h=>exact h
     | 6,hlj,hp,h=>rw [hli] at hlj;cases hlj
     | 7,hlj,hp,h=>exact h
     | 8,hlj,hp,h=>exact h
     | 9,hlj,hp,h=>exact h
     | 10,hlj,hp,h=>exact h
     | 11,hlj,hp,h=>exact h
     | 12,hlj,hp,h=>exact h
     | 13,hlj,hp,h=>exact h
     | 14,hlj,hp,h=>obtain ⟨b,e,h⟩:=h;exact ⟨b,e,h.grown hg (fun q=>by obtain rfl:=Option.some.inj q;have h9:=Option.some.inj ((show z.heap[a2]?=some _ from k2).symm.trans (show z.heap[a2]?=some _ from h));cases h9)⟩
     | 15,hlj,hp,h=>rw [n15] at hlj;cases hlj
     | 16,hlj,hp,h=>rw [n16] at hlj;cases hlj
     | 17,hlj,hp,h=>rw [n17] at hlj;cases hlj
     | 18,hlj,hp,h=>rw [n18] at hlj;cases hlj
     | 19,hlj,hp,h=>exact h
     | 20,hlj,hp,h=>rw [n20] at hlj;cases hlj
     | 21,hlj,hp,h=>exact h
     | _+22,_,_,_=>trivial
    | 7,ho =>
     obtain rfl:=oj ho
     have hls:ℓ 21=false:=hup 12 21 (by kernel_rfl)
     have hPl:=fun xx w' (hb:Below z.heap.size z w')=>ja_plain (i:=7) (x':=xx) hj (by decide) (by decide) hls hb
     clear hdep ho hup
     dsimp only at hK ⊢
     refine wpOp_step rfl (fun K2 hK2=>?_)
     go_simp
     exact hK2 _ _ (hK _ _ (hPl _ _ (Below.refl _ _)) (fun _ _ _ _ h=>h) rfl)
    | 8,ho =>
     obtain rfl:=oj ho
     have q7:xX 218 = .pointer (some ⟨P,10,none⟩):=hdep 7 (by kernel_rfl) _ _ rfl rfl
     have hls:ℓ 21=false:=hup 12 21 (by kernel_rfl)
     have hPl:=fun xx w' (hb:Below z.heap.size z w')=>ja_plain (i:=8) (x':=xx) hj (by decide) (by decide) hls hb
     have hz:=hj.1 (hup 12 21 (by kernel_rfl))
     obtain ⟨_,y0,y1,y2,y3,y4,_,y5,y6,y7⟩:=HCC.out z hz
     clear hdep ho hup
     dsimp only at hK ⊢
     simp only [q7] at hK ⊢
     refine wpOp_step rfl (fun K2 hK2=>?_)
     go_simp
     exact hK2 _ _ (hK _ _ (hPl _ _ (Below.refl _ _)) (fun _ _ _ _ h=>h) rfl)
    | 9,ho =>
     obtain rfl:=oj ho
     have hls:ℓ 21=false:=hup 12 21 (by kernel_rfl)
     have hPl:=fun xx w' (hb:Below z.heap.size z w')=>ja_plain (i:=9) (x':=xx) hj (by decide) (by decide) hls hb
     clear hdep ho hup
     dsimp only at hK ⊢
     refine wpOp_step rfl (fun K2 hK2=>?_)
     go_simp
     exact hK2 _ _ (hK _ _ (hPl _ _ (Below.refl _ _)) (fun _ _ _ _ h=>h) rfl)
    | 10,ho =>
     obtain rfl:=oj ho
     have q8:xX 219 = .slice (some ⟨bH,oH,none⟩) Hs.length hac:=hdep 8 (by kernel_rfl) _ _ rfl rfl
     have q9:xX 220 = .int .i64 (j:Int):=hdep 9 (by kernel_rfl) _ _ rfl rfl
     have hls:ℓ 21=false:=hup 12 21 (by kernel_rfl)
     have hPl:=fun xx w' (hb:Below z.heap.size z w')=>ja_plain (i:=10) (x':=xx) hj (by decide) (by decide) hls hb
     clear hdep ho hup
     dsimp only at hK ⊢
     simp only [q8,q9] at hK ⊢
     refine wpOp_step rfl (fun K2 hK2=>?_)
     go_simp
     exact hK2 _ _ (hK _ _ (hPl _ _ (Below.refl _ _)) (fun _ _ _ _ h=>h) rfl)
    | 11,ho =>
     obtain rfl:=oj ho
     have q10:xX 221 = .pointer (some ⟨bH,oH+j * 3,none⟩):=hdep 10 (by kernel_rfl) _ _ rfl rfl
     have hls:ℓ 21=false:=hup 12 21 (by kernel_rfl)
     have hPl:=fun xx w' (hb:Below z.heap.size z w')=>ja_plain (i:=11) (x':=xx) hj (by decide) (by decide) hls hb
     have hz:=hj.1 (hup 12 21 (by kernel_rfl))
     obtain ⟨_,y0,y1,y2,y3,y4,_,y5,y6,y7⟩:=HCC.out z hz
     clear hdep ho hup
     dsimp only at hK ⊢
     simp only [q10] at hK ⊢
     refine wpOp_step rfl (fun K2 hK2=>?_)
     go_simp
     exact hK2 _ _ (hK _ _ (hPl _ _ (Below.refl _ _)) (fun _ _ _ _ h=>h) rfl)
    | 12,ho =>
     obtain rfl:=oj ho
     have hls:ℓ 21=false:=hup 12 21 (by kernel_rfl)
     have hPl:=fun xx w' (hb:Below z.heap.size z w')=>ja_plain (i:=12) (x':=xx) hj (by decide) (by decide) hls hb
     clear hdep ho hup
     dsimp only at hK ⊢
     refine wpOp_step rfl (fun K2 hK2=>?_)
     go_simp
     exact hK2 _ _ (hK _ _ (hPl _ _ (Below.refl _ _)) (fun _ _ _ _ h=>h) rfl)
    | 13,ho =>
     obtain rfl:=oj ho
     have q11:xX 222 = .agg #[.slice ka kl kc,.slice sa sl sc,.slice ca cl cc]:=hdep 11 (by kernel_rfl) _ _ rfl rfl
     have q12:xX 223 = .slice ua pl.length un:=hdep 12 (by kernel_rfl) _ _ rfl rfl
     have hls:ℓ 21=false:=hup 12 21 (by kernel_rfl)
     have hPl:=fun xx w' (hb:Below z.heap.size z w')=>ja_plain (i:=13) (x':=xx) hj (by decide) (by decide) hls hb
     clear hdep ho hup
     dsimp only at hK ⊢
     simp only [q11,q12] at hK ⊢
     refine wpOp_step rfl (fun K2 hK2=>?_)
     go_simp
     exact hK2 _ _ (hK _ _ (hPl _ _ (Below.refl _ _)) (fun _ _ _ _ h=>h) rfl)
    | 14,ho =>
     obtain rfl:=oj ho
     have q13:xX 224 = .agg #[.slice ka kl kc,.slice sa sl sc,.slice ca cl cc,.slice ua pl.length un]:=hdep 13 (by kernel_rfl) _ _ rfl rfl
     have hls:ℓ 21=false:=hup 12 21 (by kernel_rfl)
     have hPl:=fun xx w' (hb:Below z.heap.size z w')=>ja_plain (i:=14) (x':=xx) hj (by decide) (by decide) hls hb
     have hz:=hj.1 (hup 12 21 (by kernel_rfl))
     clear hdep ho hup
     dsimp only at hK ⊢
     simp only [q13] at hK ⊢
     refine wpOp_step rfl (fun K2 hK2=>?_)
     go_simp
     have hb:Below z.heap.size z (z.alloc (.cells #[.slice ka kl kc,.slice sa sl sc,.slice ca cl cc,.slice ua pl.length un] 58)):=new_below _ _
     refine hK2 _ _ (hK _ _ (hPl _ _ hb) ?_ ⟨z.heap.size,rfl,Blk.new z _ _⟩)
     intro jj v' hlj hp h
     match jj,hlj,hp,h with
     | 0,hlj,hp,h=>exact h
     | 1,hlj,hp,h=>exact h
     | 2,hlj,hp,h=>obtain ⟨a,e,h1,h2⟩:=h;exact ⟨a,e,h1.below hb,h2⟩
     | 3,hlj,hp,h=>exact h
     | 4,hlj,hp,h=>exact h
     | 5,hlj,hp,h=>exact h
     | 6,hlj,hp,h=>obtain ⟨V,e,h⟩:=h;exact ⟨V,e,row_later h hb⟩
     | 7,hlj,hp,h=>exact h
     | 8,hlj,hp,h=>exact h
     | 9,hlj,hp,h=>exact h
     | 10,hlj,hp,h=>exact h
     | 11,hlj,hp,h=>exact h
     | 12,hlj,hp,h=>exact h
     | 13,hlj,hp,h=>exact h
     | 14,hlj,hp,h=>obtain ⟨b,e,h⟩:=h;exact ⟨b,e,h.below hb⟩
     | 15,hlj,hp,h=>obtain ⟨V,e,h⟩:=h;exact ⟨V,e,row_later h hb⟩
     | 16,hlj,hp,h=>obtain ⟨cv,e,h⟩:=h;exact ⟨cv,e,h.later hb⟩
     | 17,hlj,hp,h=>obtain ⟨cv,e,h⟩:=h;exact ⟨cv,e,h.later hb⟩
     | 18,hlj,hp,h=>obtain ⟨cv,e,h⟩:=h;exact ⟨cv,e,h.later hb⟩
     | 19,hlj,hp,h=>exact h
     | 20,hlj,hp,h=>obtain ⟨cv,e,h⟩:=h;exact ⟨cv,e,h.later hb⟩
     | 21,hlj,hp,h=>exact h
     | _+22,_,_,_=>trivial
    | 15,ho =>
     obtain rfl:=oj ho
     have h6:∃ V1,xX 217=V1∧z.ownsRow w9.heap.size 58 4 V1 k (hrC hk hs hc gh' k):=hdep 6 (by kernel_rfl) _ _ rfl rfl
     obtain ⟨V1,q6,r6⟩:=h6
     have h14:∃ b4,xX 225 = .slice (some ⟨b4,0,none⟩) 1 1∧Blk z b4 58 #[.slice ka kl kc,.slice sa sl sc,.slice ca cl cc,.slice ua pl.length un]:=hdep 14 (by kernel_rfl) _ _ rfl rfl
     obtain ⟨b4,q14,k14⟩:=h14
     have hls:ℓ 21=false:=hup 12 21 (by kernel_rfl)
     have hPl:=fun xx w' (hb:Below z.heap.size z w')=>ja_plain (i:=15) (x':=xx) hj (by decide) (by decide) hls hb
     have hz:=hj.1 (hup 12 21 (by kernel_rfl))
     have n16:=hup 12 16 (by kernel_rfl)
     have n17:=hup 12 17 (by kernel_rfl)
     have n18:=hup 12 18 (by kernel_rfl)
     have n20:=hup 12 20 (by kernel_rfl)
     clear hdep ho hup
     dsimp only at hK ⊢
     simp only [q6,q14] at hK ⊢
     refine wpOp_step rfl (fun K2 hK2=>?_)
     obtain ⟨V9,z1,hr,ho,hg⟩:=append_tls z w9.heap.size (V1) k _ (r6) (tl_one (t:=⟨Hs[j],pl⟩) k14 (HHN.out z hz) (HPP.out z hz)) (by simp only [List.length_singleton];have:=HK30.out;omega) hz.size
     have hb9:Below w9.heap.size w9 z1:=hz.grown hg hz.size (fun _ e=>row_ge (r6) e)
     refine step_appendK rfl _ _ 33 33 rfl (V1) (.slice (some ⟨b4,0,none⟩) 1 1) (by simp [Act.eval]) (by simp [Act.eval]) hr ?_
     refine hK2 _ _ (hK _ _ (ja_keep (by decide) hls hb9) ?_ ⟨V9,rfl,ho⟩)
     intro jj v' hlj hp h
     match jj,hlj,hp,h with
     | 0,hlj,hp,h=>exact h
     | 1,hlj,hp,h=>exact h
     | 2,hlj,hp,h=>exact absurd hp (onlyN_spec (i:=15) (j:=2) (by kernel_rfl) hdl)
     | 3,hlj,hp,h=>exact h
     | 4,hlj,hp,h=>exact h
     | 5,hlj,hp,h=>exact h
     | 6,hlj,hp,h=>exact absurd hp (onlyN_spec (i:=15) (j:=6) (by kernel_rfl) hdl)
     | 7,hlj,hp,h=>exact h
     | 8,hlj,hp,h=>exact h
     | 9,hlj,hp,h=>exact h
     | 10,hlj,hp,h=>exact h
     | 11,hlj,hp,h=>exact h
     | 12,hlj,hp,h=>exact h
     | 13,hlj,hp,h=>exact h
     | 14,hlj,hp,h=>exact absurd hp (onlyN_spec (i:=15) (j:=14) (by kernel_rfl) hdl)
     | 15,hlj,hp,h=>rw [hli] at hlj;cases hlj
     | 16,hlj,hp,h=>rw [n16] at hlj;cases hlj
     | 17,hlj,hp,h=>rw [n17] at hlj;cases hlj
     | 18,hlj,hp,h=>rw [n18] at hlj;cases hlj
     | 19,hlj,hp,h=>exact h
     | 20,hlj,hp,h=>rw [n20] at hlj;cases hlj
     | 21,hlj,hp,h=>exact h
     | _+22,_,_,_=>trivial
    | 16,ho =>
     obtain rfl:=oj ho
     have q1:xX 212 = .agg #[v1,v2,.slice a3 S.ss.length c3,.slice a4 S.cs.length c4]:=hdep 1 (by kernel_rfl) _ _ rfl rfl
     have h15:∃ V2,xX 226=V2∧z.ownsRow w9.heap.size 58 4 V2 (k+1) (hrC hk hs hc gh' k++[.slice ka kl kc,.slice sa sl sc,.slice ca cl cc,.slice ua pl.length un]):=hdep 15 (by kernel_rfl) _ _ rfl rfl
     obtain ⟨V2,q15,r15⟩:=h15
     have hls:ℓ 21=false:=hup 12 21 (by kernel_rfl)
     have hPl:=fun xx w' (hb:Below z.heap.size z w')=>ja_plain (i:=16) (x':=xx) hj (by decide) (by decide) hls hb
     have hz:=hj.1 (hup 12 21 (by kernel_rfl))
     clear hdep ho hup
     dsimp only at hK ⊢
     simp only [q1,q15] at hK ⊢
     refine wpOp_step rfl (fun K2 hK2=>?_)
     go_simp
     obtain ⟨p1,p2,p3,p4,htl⟩:=tl_snoc (t:=⟨Hs[j],pl⟩) (HPLW.out z hz) (show z.ownsRow w9.heap.size 58 4 V2 (T0.length+1) _ by rw [HTL0.out];exact r15) (HHN.out z hz) (HPP.out z hz)
     refine (HLC.out z hz V2 p1 p2 p3 p4 htl).mono ?_
     rintro e z1 ⟨cv,rfl,⟨C,gc9,hC,hst⟩,hb⟩
     refine hK2 _ _ (hK _ _ (hPl _ _ hb) ?_ ⟨cv,rfl,C,gc9,hC,hst.base hz.size⟩)
     intro jj v' hlj hp h
     match jj,hlj,hp,h with
     | 0,hlj,hp,h=>exact h
     | 1,hlj,hp,h=>exact h
     | 2,hlj,hp,h=>obtain ⟨a,e,h1,h2⟩:=h;exact ⟨a,e,h1.below hb,h2⟩
     | 3,hlj,hp,h=>exact h
     | 4,hlj,hp,h=>exact h
     | 5,hlj,hp,h=>exact h
     | 6,hlj,hp,h=>obtain ⟨V,e,h⟩:=h;exact ⟨V,e,row_later h hb⟩
     | 7,hlj,hp,h=>exact h
     | 8,hlj,hp,h=>exact h
     | 9,hlj,hp,h=>exact h
     | 10,hlj,hp,h=>exact h
     | 11,hlj,hp,h=>exact h
     | 12,hlj,hp,h=>exact h
     | 13,hlj,hp,h=>exact h
     | 14,hlj,hp,h=>obtain ⟨b,e,h⟩:=h;exact ⟨b,e,h.below hb⟩
     | 15,hlj,hp,h=>obtain ⟨V,e,h⟩:=h;exact ⟨V,e,row_later h hb⟩
     | 16,hlj,hp,h=>obtain ⟨cv,e,h⟩:=h;exact ⟨cv,e,h.later hb⟩
     | 17,hlj,hp,h=>obtain ⟨cv,e,h⟩:=h;exact ⟨cv,e,h.later hb⟩
     | 18,hlj,hp,h=>obtain ⟨cv,e,h⟩:=h;exact ⟨cv,e,h.later hb⟩
     | 19,hlj,hp,h=>exact h
     | 20,hlj,hp,h=>obtain ⟨cv,e,h⟩:=h;exact ⟨cv,e,h.later hb⟩
     | 21,hlj,hp,h=>exact h
     | _+22,_,_,_=>trivial
    | 17,ho =>
     obtain rfl:=oj ho
     have h16:∃ cv,xX 227 = .tuple #[cv,.int .i64 0]∧CvW w9.heap.size z cv m lf:=hdep 16 (by kernel_rfl) _ _ rfl rfl
     obtain ⟨cv,q16,r16⟩:=h16
     have hls:ℓ 21=false:=hup 12 21 (by kernel_rfl)
     have hPl:=fun xx w' (hb:Below z.heap.size z w')=>ja_plain (i:=17) (x':=xx) hj (by decide) (by decide) hls hb
     clear hdep ho hup
     dsimp only at hK ⊢
     simp only [q16] at hK ⊢
     refine wpOp_step rfl (fun K2 hK2=>?_)
     go_simp
     exact hK2 _ _ (hK _ _ (hPl _ _ (Below.refl _ _)) (fun _ _ _ _ h=>h) ⟨cv,rfl,r16⟩)
    | 18,ho =>
     obtain rfl:=oj ho
     have h17:∃ cv,xX 210 = .tuple #[cv,.int .i64 0]∧CvW w9.heap.size z cv m lf:=hdep 17 (by kernel_rfl) _ _ rfl rfl
     obtain ⟨cv,q17,r17⟩:=h17
     have hls:ℓ 21=false:=hup 12 21 (by kernel_rfl)
     have hPl:=fun xx w' (hb:Below z.heap.size z w')=>ja_plain (i:=18) (x':=xx) hj (by decide) (by decide) hls hb
     clear hdep ho hup
     dsimp only at hK ⊢
     simp only [q17] at hK ⊢
     refine wpOp_step rfl (fun K2 hK2=>?_)
     go_simp
     exact hK2 _ _ (hK _ _ (hPl _ _ (Below.refl _ _)) (fun _ _ _ _ h=>h) ⟨cv,rfl,r17⟩)
    | 19,ho =>
     obtain rfl:=oj ho
     have h17:∃ cv,xX 210 = .tuple #[cv,.int .i64 0]∧CvW w9.heap.size z cv m lf:=hdep 17 (by kernel_rfl) _ _ rfl rfl
     obtain ⟨cv,q17,r17⟩:=h17
     have hls:ℓ 21=false:=hup 12 21 (by kernel_rfl)
     have hPl:=fun xx w' (hb:Below z.heap.size z w')=>ja_plain (i:=19) (x':=xx) hj (by decide) (by decide) hls hb
     clear hdep ho hup
     dsimp only at hK ⊢
     simp only [q17] at hK ⊢
     refine wpOp_step rfl (fun K2 hK2=>?_)
     go_simp
     exact hK2 _ _ (hK _ _ (hPl _ _ (Below.refl _ _)) (fun _ _ _ _ h=>h) rfl)
    | 20,ho =>
     obtain rfl:=oj ho
     have h18:∃ cv,xX 228=cv∧CvW w9.heap.size z cv m lf:=hdep 18 (by kernel_rfl) _ _ rfl rfl
     obtain ⟨cv,q18,r18⟩:=h18
     have hls:ℓ 21=false:=hup 12 21 (by kernel_rfl)
     have hPl:=fun xx w' (hb:Below z.heap.size z w')=>ja_plain (i:=20) (x':=xx) hj (by decide) (by decide) hls hb
     clear hdep ho hup
     dsimp only at hK ⊢
     simp only [q18] at hK ⊢
     refine wpOp_step rfl (fun K2 hK2=>?_)
     go_simp
     exact hK2 _ _ (hK _ _ (hPl _ _ (Below.refl _ _)) (fun _ _ _ _ h=>h) ⟨cv,rfl,r18⟩)
    | 21,ho =>
     obtain rfl:=oj ho
     have q19:xX 229 = .int .i64 0:=hdep 19 (by kernel_rfl) _ _ rfl rfl
     have h20:∃ cv,xX 17=cv∧CvW w9.heap.size z cv m lf:=hdep 20 (by kernel_rfl) _ _ rfl rfl
     obtain ⟨cv,q20,r20⟩:=h20
     have hz:=hj.1 hli
     clear hdep ho hup
     dsimp only at hK ⊢
     simp only [q19,q20] at hK ⊢
     refine wpOp_step rfl (fun K2 hK2=>?_)
     go_simp
     exact hK2 _ _ (hK _ _ (ja_last (.inl rfl) ⟨_,q20,rfl,r20,hz⟩) (fun _ _ _ hp _=>absurd hp (lastN_spec (by kernel_rfl) (by kernel_rfl) hdl)) rfl)
    | n+22,ho=>exact absurd (Array.getElem?_eq_some_iff.1 ho).1 (by simp)
   case done =>
    intro ℓ xX z hall hj
    have hf:=hj.2 (hall 21 (of_decide_eq_true (by kernel_rfl)))
    obtain ⟨cv,q20,q21,hcw,hz⟩:=hf
    obtain ⟨C,gC,⟨u1,u2,u3⟩,hst⟩:=hcw
    obtain ⟨aC,cC,rfl⟩:=own_form hst.row
    have HSC:=hid hst.rd
    obtain ⟨bC,oC,_,ev,_,x0⟩:=HSC.out.at' u1
    cases ev
    rw [Nat.add_zero] at x0
    obtain ⟨fC,dC,eC⟩:=(HSC.out.st 0 u1).ftForm
    rw [u3 0 u1] at eC
    rw [eC] at x0
    have hv5:=below_step HV9 hz
    obtain ⟨_,_,_,ev,_,p0⟩:=(HA.out.later hv5).at' HMO.out.neM
    cases ev
    rw [Nat.add_zero] at p0
    obtain ⟨f9,c9,e9⟩:=((HA.out.later hv5).st 0 HMO.out.neM).ftForm
    rw [HMO.out.szM 0 HMO.out.neM] at e9
    rw [e9] at p0
    have m1:(C.length:Int)≤(lf:Int):=by omega
    have m2:(0:Int)<(C.length:Int):=by omega
    have m3:(0:Int)<(M.length:Int):=by have:=HMO.out.neM;omega
    have m4:0<M.length:=HMO.out.neM
    have m5:((m:Int)==(m:Int))=true:=beq_self_eq_true _
    have hdr:=hold2 (W0:=w5) ⟨hv5,x0,p0⟩ ((Below.refl _ z).drew)
    dsimp only
    simp only [q20,q21]
    clear hj hall q20 q21 u3 hst eC e9 hv5 x0 p0 HSC
    go_upto_region 28 with fail
    go_region_held3 (fun w'=>Below w5.heap.size w5 w'∧w'.cell? ⟨bC,oC,none⟩=some (.slice fC m dC)∧w'.cell? ⟨bA,oA,none⟩=some (.slice f9 m c9)) (first | exact hdr | assumption | fail) (first | (go_at_call 9;(with_reducible refine (HSH.out _ (below_step HZB.out hdr.1)).mono ?_);rintro e w11 ⟨rfl,hb11⟩;have hn11:=hold2 hdr hb11;have HB11:=hid (below_step HB0.out (below_step HZB.out hn11.1))) | fail)
    go_wp2
    go_ret
    exact ⟨rfl,HB11.out⟩
end Go.Proofs.YteflhbfgpknabaaGreatDoor
