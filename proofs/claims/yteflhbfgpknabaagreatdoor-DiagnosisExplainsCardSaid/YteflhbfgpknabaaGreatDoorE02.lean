/-
  A part of the proof: L41.
-/
import Derived.Test.YteflhbfgpknabaaGreatDoorN32
import Derived.Test.YteflhbfgpknabaaGreatDoorE01
namespace Go.Proofs.YteflhbfgpknabaaGreatDoor
open Go.RowKit Go.Shelf
set_option maxRecDepth 100000 in
set_option maxHeartbeats 12800000 in
theorem diagnosisExplains_walk (v1 v2 v3 v4 fv vk vs vc tv hv:Value) (most:Int) (fp:Nat→Value) (S:Sp) (F:List Ft) (H:Hn) (L:List Tl) (Hs:List Hn) (gk gs gc gh hk hs hc:Nat→Value) (w:World) (t:Tabs w) (d:Deb w) (c:CsIn w v1 v2 v3 v4 fv vk vs vc tv hv fp S F H L Hs gk gs gc gh hk hs hc) :
  Calls Tryz.prog 3 #[.agg #[v1,v2,v3,v4,fv,vk,vs,vc,tv,.int .i64 most,hv]] w (BoolR true w):=by
 obtain ⟨fa,fc,rfl⟩:=c.m.f.ftForm
 obtain ⟨ha,hac,rfl⟩:=c.m.hs.form
 obtain ⟨_,_,⟨a3,c3,rfl⟩,⟨a4,c4,rfl⟩⟩:=c.m.sp.forms
 have HB0:=Lib.hid (show Below w.heap.size w (w.alloc (.cells #[v1,v2,.slice a3 S.ss.length c3,.slice a4 S.cs.length c4,.slice fa F.length fc,vk,vs,vc,tv,.int .i64 most,.slice ha Hs.length hac] 36)) from (Below.refl _ _).alloc (Nat.le_refl _) _)
 have K0:=Lib.hid (Blk.new w 36 #[v1,v2,.slice a3 S.ss.length c3,.slice a4 S.cs.length c4,.slice fa F.length fc,vk,vs,vc,tv,.int .i64 most,.slice ha Hs.length hac])
 have HT:=Lib.hid t
 have HD:=Lib.hid d
 have HC:=Lib.hid c
 have HM:=Lib.hid (c.m.later HB0.out)
 clear t d c
 go_enter Tryz.func3,Tryz.ntmps3
 go_upto_region 1 with fail
 obtain ⟨P,hP⟩:∃ P,w.heap.size=P:=⟨_,rfl⟩
 have HP:=Lib.hid hP
 generalize w.alloc (.cells #[v1,v2,.slice a3 S.ss.length c3,.slice a4 S.cs.length c4,.slice fa F.length fc,vk,vs,vc,tv,.int .i64 most,.slice ha Hs.length hac] 36)=W0 at *
 rw [hP] at K0 ⊢
 clear hP
 have HSH:=Lib.hid (fun (W:World) (hz:Below W0.heap.size W0 W)=>shown30_any W (HD.out.below (below_step HB0.out hz)) (HT.out.below (below_step HB0.out hz)))
 obtain ⟨e0,e1,e2,e3,e4,e5,e6,e7,e8,e9,e10⟩:=case_cells K0.out (Below.refl _ W0)
 go_wp2_with fail
 refine (far30_any v1 v2 _ _ _ vk vs vc tv _ most fp S F H L Hs gk gs gc gh hk hs hc W0 HM.out HC.out.ll HC.out.lh).mono ?_
 rintro e W1 ⟨bf,rfl,hbf,HZ1⟩
 replace HZ1:=Lib.hid HZ1
 cases bf with
 | true =>
  clear hbf e0 e1 e2 e3 e4 e5 e6 e7 e8 e9 e10
  go_wp2_with fail
  refine (HSH.out _ HZ1.out).mono ?_
  rintro e W9 ⟨rfl,hb9⟩
  have HB9:=Lib.hid (below_step HB0.out (below_step HZ1.out hb9))
  clear hb9
  go_wp2
  go_ret
  exact ⟨rfl,HB9.out⟩
 | false =>
  have HF:=Lib.hid (hbf rfl)
  have HW:=Lib.hid (HC.out.wk HF.out)
  obtain ⟨B,hB⟩:=snd_some S
  have HSB:=Lib.hid (fun (_:(checkP S).2=0)=>hB)
  have HFL:=Lib.hid (show F.length≤1000000 by have:=HF.out.fl; omega)
  have HHL:=Lib.hid (show Hs.length≤30 from HF.out.hl)
  have HHM:=Lib.hid (show ∀ H∈Hs,HnSm H from fun H hH=>(HF.out.hs H hH).sm)
  clear hB hbf e0 e1 e2 e3 e4 e5 e6 e7 e8 e9 e10
  have HGr:=Lib.hid (fun (W:World) (hz:Below W0.heap.size W0 W)=>faults30_any v1 v2 _ _ S HW.out fp F _ HFL.out W (HM.out.later hz).sp (HM.out.later hz).f)
  have HHD:=Lib.hid (fun (h:fltE S F=0) (W:World) (hz:Below W0.heap.size W0 W)=>heard_any v1 v2 _ _ S HW.out fp F h HFL.out _ Hs HHM.out (by have:=HHL.out; omega) _ hk hs hc B HSB.out W (HM.out.later hz).sp (HM.out.later hz).f (HM.out.later hz).hs)
  have HLE:=Lib.hid (fun (T:List Tl) (hs9:∀ t∈T,HnSm t.h∧t.l.length≤1000000) (hl9:T.length≤1000000) (tv9:Value) (p1 p2 p3 p4:Nat→Value) (W:World) (hz:Below W0.heap.size W0 W) (htv:TlRd W tv9 T p1 p2 p3 p4)=>leastD_any v1 v2 _ _ S HW.out fp T hs9 hl9 tv9 p1 p2 p3 p4 B HSB.out 2 W (HD.out.below (below_step HB0.out hz)) (HT.out.below (below_step HB0.out hz)) (HM.out.later hz).sp HC.out.cap htv)
  have HEX:=Lib.hid (fun (G:List Ft) (gv:Value) (hG:G.length≤1000000) (T:List Tl) (hs9:∀ t∈T,HnSm t.h∧t.l.length≤1000000) (hl9:T.length≤1000000) (tv9:Value) (p1 p2 p3 p4:Nat→Value) (W:World) (hz:Below W0.heap.size W0 W) (htv:TlRd W tv9 T p1 p2 p3 p4) (hgv:ARd W gv 3 (G.map ftC))=>expl30_any v1 v2 _ _ S HW.out fp gv G hG T hs9 hl9 tv9 p1 p2 p3 p4 B HSB.out W (HM.out.later hz).sp htv hgv)
  have HFR:=Lib.hid (fun (W:World) (hz:Below W0.heap.size W0 W)=>(HM.out.later hz).f)
  clear HW HSB HF HC HM HT HD
  obtain ⟨e0,e1,e2,e3,e4,e5,e6,e7,e8,e9,e10⟩:=case_cells K0.out HZ1.out
  by_cases h1:F.length≤2
  case neg =>
   have q1:(2:Int) < (F.length:Int):=by omega
   clear h1
   go_wp2_with fail
   refine (HSH.out _ HZ1.out).mono ?_
   rintro e W9 ⟨rfl,hb9⟩
   have HB9:=Lib.hid (below_step HB0.out (below_step HZ1.out hb9))
   clear hb9
   go_wp2
   go_ret
   exact ⟨rfl,HB9.out⟩
  have q1:¬ (2:Int) < (F.length:Int):=by omega
  by_cases h2:Hs.length≤4
  case neg =>
   have q2:(4:Int) < (Hs.length:Int):=by omega
   clear h2
   go_wp2_with fail
   refine (HSH.out _ HZ1.out).mono ?_
   rintro e W9 ⟨rfl,hb9⟩
   have HB9:=Lib.hid (below_step HB0.out (below_step HZ1.out hb9))
   clear hb9
   go_wp2
   go_ret
   exact ⟨rfl,HB9.out⟩
  have q2:¬ (4:Int) < (Hs.length:Int):=by omega
  by_cases h3:S.ss.length≤4
  case neg =>
   have q3:(4:Int) < (S.ss.length:Int):=by omega
   clear h3
   go_wp2_with fail
   refine (HSH.out _ HZ1.out).mono ?_
   rintro e W9 ⟨rfl,hb9⟩
   have HB9:=Lib.hid (below_step HB0.out (below_step HZ1.out hb9))
   clear hb9
   go_wp2
   go_ret
   exact ⟨rfl,HB9.out⟩
  have q3:¬ (4:Int) < (S.ss.length:Int):=by omega
  by_cases h4:S.cs.length≤4
  case neg =>
   have q4:(4:Int) < (S.cs.length:Int):=by omega
   clear h4
   go_wp2_with fail
   refine (HSH.out _ HZ1.out).mono ?_
   rintro e W9 ⟨rfl,hb9⟩
   have HB9:=Lib.hid (below_step HB0.out (below_step HZ1.out hb9))
   clear hb9
   go_wp2
   go_ret
   exact ⟨rfl,HB9.out⟩
  have q4:¬ (4:Int) < (S.cs.length:Int):=by omega
  go_wp2_with fail
  refine (HGr.out _ HZ1.out).mono ?_
  rintro e W2 ⟨rfl,hb2⟩
  have HZ2:=Lib.hid (below_step HZ1.out hb2)
  clear hb2 HZ1 HGr q1 q2 q3 q4 e0 e1 e2 e3 e4 e5 e6 e7 e8 e9 e10
  obtain ⟨n,hn⟩:∃ n,fltE S F=n:=⟨_,rfl⟩
  rw [hn]
  by_cases hz0:n=0
  case neg =>
   have q5:(n == 0)=false:=by simpa using hz0
   have q6:(n != 0)=true:=by simpa using hz0
   clear hz0 hn
   go_wp2_with fail
   refine (HSH.out _ HZ2.out).mono ?_
   rintro e W9 ⟨rfl,hb9⟩
   have HB9:=Lib.hid (below_step HB0.out (below_step HZ2.out hb9))
   clear hb9
   go_wp2
   go_ret
   exact ⟨rfl,HB9.out⟩
  subst hz0
  have HOK:=Lib.hid (fltE_ok.1 hn)
  obtain ⟨e0,e1,e2,e3,e4,e5,e6,e7,e8,e9,e10⟩:=case_cells K0.out HZ2.out
  go_wp2_with fail
  refine (HHD.out hn _ HZ2.out).mono ?_
  rintro e W3 ⟨tl,bt,rfl,hbt,hb3⟩
  have HZ3:=Lib.hid (below_step HZ2.out hb3)
  clear hb3 HZ2 HHD hn e0 e1 e2 e3 e4 e5 e6 e7 e8 e9 e10
  cases bt with
  | false =>
   clear hbt
   go_wp2_with fail
   refine (HSH.out _ HZ3.out).mono ?_
   rintro e W9 ⟨rfl,hb9⟩
   have HB9:=Lib.hid (below_step HB0.out (below_step HZ3.out hb9))
   clear hb9
   go_wp2
   go_ret
   exact ⟨rfl,HB9.out⟩
  | true =>
   obtain ⟨hall,gh',htl,htr⟩:=hbt rfl
   clear hbt
   obtain ⟨ta,tc,rfl⟩:=own_form htr
   have HTL:=Lib.hid htl
   have HT0:=Lib.hid (hd_trl (B:=B) (F:=F) HOK.out.1 (by omega) hall)
   have HTM:=Lib.hid (show ∀ t∈hdT S B F Hs,HnSm t.h∧t.l.length≤1000000 from hd_sm HHM.out HOK.out.1)
   have HTN:=Lib.hid (show (hdT S B F Hs).length≤1000000 from by rw [hd_len]; omega)
   clear htr htl
   obtain ⟨e0,e1,e2,e3,e4,e5,e6,e7,e8,e9,e10⟩:=case_cells K0.out HZ3.out
   go_wp2_with fail
   refine (HLE.out _ HTM.out HTN.out _ _ _ _ _ _ HZ3.out HTL.out).mono ?_
   rintro e W4 ⟨av,M,g,n,rfl,hls,hst,hb4⟩
   have HZ4:=Lib.hid (below_step HZ3.out hb4)
   replace HTL:=Lib.hid (HTL.out.later hb4)
   clear hb4 HZ3 HLE e0 e1 e2 e3 e4 e5 e6 e7 e8 e9 e10
   rcases fnd_of HT0.out h3 h4 HOK.out.2.2 h1 hd_exps hls with ⟨rfl,rfl⟩ | ⟨rfl,many,hfn⟩
   ·clear hst hls
    go_wp2_with fail
    refine (HSH.out _ HZ4.out).mono ?_
    rintro e W9 ⟨rfl,hb9⟩
    have HB9:=Lib.hid (below_step HB0.out (below_step HZ4.out hb9))
    clear hb9
    go_wp2
    go_ret
    exact ⟨rfl,HB9.out⟩
   have HFN:=Lib.hid hfn
   have HBF:=Lib.hid (fun (i:Nat) (hi:i + 1 < M.length) (W:World) (hz:Below W4.heap.size W4 W)=>lawBefore_any M[i] M[i + 1] (g i) (g (i + 1)) W (hfn.asc i hi) (by rw [hfn.sz i (by omega)]; have:=hfn.m2; omega) ((hst.rd.later hz).st i (by omega)) ((hst.rd.later hz).st (i + 1) hi))
   have HST:=Lib.hid (hst.rd)
   have hml:=hfn.le
   obtain ⟨aa,ac,rfl⟩:=HST.out.form
   have HEM:=Lib.hid (fun (i:Nat) (hi:i < M.length) (W:World) (hz:Below W4.heap.size W4 W)=>(HEX.out M[i] (g i) (by rw [hfn.sz i hi]; have:=hfn.m2; omega) (hdT S B F Hs) HTM.out HTN.out (.slice ta Hs.length tc) _ _ _ _ W (below_step HZ4.out hz) (HTL.out.later hz) ((HST.out.later hz).st i hi)).mono (fun e w' (h:ExR S B M[i] (hdT S B F Hs) W e w')=>show ∃ k:Int,e = .returned (.tuple #[.bool true,.int .i64 k,.int .i64 0])∧Below W.heap.size W w' from by
    obtain ⟨he,hb⟩:=h
    rw [(hfn.ex i hi).1,(hfn.ex i hi).2] at he
    exact ⟨_,he,hb⟩))
   clear hst hls hfn HEX HT0 HTM HTN HTL hall
   have HV0:=Lib.hid (Below.refl W4.heap.size W4)
   have HI0:RowKit.Hid (false=fndB F M 0):=Lib.hid (by unfold fndB; simp)
   go_upto_region 9 with fail
   go_cut [7] from 12 to 75 (fun x7 wx=>x7 = .bool false∧W4=wx)
   case first =>
    go_wp2
    go_meet
    exact ⟨rfl,rfl⟩
   case rest =>
   obtain ⟨rfl,rfl⟩:=hcut
   go_wp2
   go_loopw [7,8] (fun b x wr=>∃ (bb:Bool) (i:Nat),i≤M.length∧b = .bool bb∧x = .int .i64 i∧RowKit.Hid (bb=fndB F M i)∧RowKit.Hid (Below W4.heap.size W4 wr)) (fun _ x _=>M.length - (intOf x).toNat)
   case atStart=>exact ⟨false,0,Nat.zero_le _,rfl,rfl,HI0,HV0⟩
   clear HI0 HV0
   obtain ⟨bb,ix,hil,rfl,rfl,hbb,hV⟩:=hrel
   by_cases hi:ix < M.length
   ·have hi2:(ix:Int) < (M.length:Int):=by omega
    have hi3:(ix:Int)≤200:=by omega
    have hi5:(0:Int) < (M.length:Int):=by omega
    have hi6:0 < M.length:=HFN.out.ne
    obtain ⟨bA,oA,c',ev,_,q0⟩:=(HST.out.later hV.out).at' hi
    cases ev
    obtain ⟨_,_,_,ev,_,p0⟩:=(HST.out.later hV.out).at' HFN.out.ne
    cases ev
    rw [Nat.add_zero] at p0
    obtain ⟨fi,ci,ei⟩:=((HST.out.later hV.out).st ix hi).ftForm
    obtain ⟨f0,c0,e00⟩:=((HST.out.later hV.out).st 0 HFN.out.ne).ftForm
    rw [HFN.out.sz ix hi] at ei
    rw [HFN.out.sz 0 HFN.out.ne] at e00
    have HE1:=Lib.hid (HEM.out ix hi)
    have HSI:=Lib.hid (fun (W:World) (hz:Below W4.heap.size W4 W)=>(HST.out.later hz).st ix hi)
    rw [e00] at p0
    rw [ei] at q0 HE1 HSI
    obtain ⟨e0,e1,e2,e3,e4,e5,e6,e7,e8,e9,e10⟩:=case_cells K0.out (below_step HZ4.out hV.out)
    have hdr:=hold5 (W0:=W4) ⟨hV.out,e0,e1,e2,e3,q0⟩ ((Below.refl _ wr).drew)
    have hpr:=hold2 (W0:=W4) ⟨hV.out,p0,e4⟩ ((Below.refl _ wr).drew)
    clear e0 e1 e2 e3 e4 e5 e6 e7 e8 e9 e10 q0 p0
    go_upto_region 13 with fail
    go_region_held3 (fun w'=>Below W4.heap.size W4 w'∧w'.cell? ⟨P,0,none⟩=some v1∧w'.cell? ⟨P,1,none⟩=some v2∧w'.cell? ⟨P,2,none⟩=some (.slice a3 S.ss.length c3)∧w'.cell? ⟨P,3,none⟩=some (.slice a4 S.cs.length c4)∧w'.cell? ⟨bA,oA + ix,none⟩=some (.slice fi many ci)) (first | exact hdr | assumption | fail) (first | (go_at_call 12; (with_reducible refine (HE1.out _ hdr.1).mono ?_); rintro e w5 ⟨kk,rfl,hb5⟩; have hn5:=hold5 hdr hb5; have hp5:=hold2 hpr hb5; have HV5:=Lib.hid hn5.1) | fail)
    obtain ⟨_,_,_,_,_,q0⟩:=hn5
    obtain ⟨_,p0,e4⟩:=hp5
    clear hdr hpr HE1 hb5 hV
    go_upto_region 14 with fail
    go_cut [128] from 94 to 128 (fun x128 wx=>x128 = .bool false∧RowKit.Hid (Below W4.heap.size W4 wx))
    case first =>
     by_cases hi0:ix=0
     ·have q1:decide ((0:Int) < (ix:Int))=false:=decide_eq_false (by omega)
      have q2:decide (0 < ix)=false:=decide_eq_false (by omega)
      clear hi0
      go_quiet (fail)
      go_wp2
      go_meet
      exact ⟨rfl,Lib.hid (below_drewN HV5.out nq)⟩
     ·obtain ⟨m,hm⟩:∃ m,ix=m + 1:=⟨ix - 1,by omega⟩
      have q1:(0:Int) < (ix:Int):=by omega
      have q4:0 < ix:=by omega
      have q2:IntKind.i64.wrap ((ix:Int) - 1)=(m:Int):=by rw [show (ix:Int) - 1=(m:Int) by omega]; exact IntWalk.i64_in _ (by omega)
      have q3:(m:Int) < (M.length:Int):=by omega
      have HB1:=Lib.hid (HBF.out m (by omega))
      obtain ⟨_,_,_,ev,_,r0⟩:=(HST.out.later HV5.out).at' (show m < M.length by omega)
      cases ev
      obtain ⟨fm,cm,em⟩:=((HST.out.later HV5.out).st m (by omega)).ftForm
      rw [HFN.out.sz m (by omega)] at em
      rw [em] at r0 HB1
      rw [← hm,ei] at HB1
      have hdr:=hold3 (W0:=W4) ⟨HV5.out,p0,r0,q0⟩ ((Below.refl _ w5).drew)
      clear hm em ei e00 e4 hi0 p0 r0 q0
      go_region_held3 (fun w'=>Below W4.heap.size W4 w'∧w'.cell? ⟨bA,oA,none⟩=some (.slice f0 many c0)∧w'.cell? ⟨bA,oA + m,none⟩=some (.slice fm many cm)∧w'.cell? ⟨bA,oA + ix,none⟩=some (.slice fi many ci)) (first | exact hdr | assumption | fail) (first | (go_at_call 13; (with_reducible refine (HB1.out _ hdr.1).mono ?_); rintro e w6 ⟨rfl,hb6⟩; have hn6:=hold3 hdr hb6; have HV6:=Lib.hid hn6.1) | fail)
      go_wp2
      go_meet
      exact ⟨rfl,HV6⟩
    case rest =>
    obtain ⟨rfl,hV6⟩:=hcut
    rename World=>W6
    have hst6:=(HST.out.later hV6.out)
    obtain ⟨_,_,_,ev,_,q0⟩:=hst6.at' hi
    cases ev
    rw [ei] at q0
    obtain ⟨_,_,_,_,e4,_,_,_,_,_,_⟩:=case_cells K0.out (below_step HZ4.out hV6.out)
    clear hst6 HV5 e00
    go_upto_region 16 with fail
    cases bb with
    | true =>
     have HBN:RowKit.Hid (true=fndB F M (ix + 1)):=Lib.hid (by rw [fnd_step hi,← hbb.out]; rfl)
     clear hbb
     go_quiet (fail)
     have HV7:=Lib.hid (below_drewN hV6.out nq)
     go_wp2
     go_roundw
     case rel=>exact ⟨true,ix + 1,by omega,rfl,by go_num,HBN,HV7⟩
     case measure=>simp [intOf]; omega
    | false =>
     obtain ⟨b2,hb2⟩:∃ b2,decide ([M[ix]]=[F])=b2:=⟨_,rfl⟩
     have HBN:RowKit.Hid (b2=fndB F M (ix + 1)):=Lib.hid (by rw [fnd_step hi,← hbb.out,hb2]; rfl)
     have HB2:=Lib.hid hb2
     have HSS:=Lib.hid (fun (va vb:Value) (W:World) (h1:StV W va [M[ix]]) (h2:StV W vb [F])=>h1.elim fun ga h1=>h2.elim fun gb h2=>samesets_any _ _ va vb ga gb W h1 h2 (by simp) (by simp) (fun x hx=>by rw [List.mem_singleton.1 hx,HFN.out.sz ix hi]; have:=HFN.out.m2; omega))
     clear hbb hb2
     have hmxx:Tryz.prog.follows .mixedOrders=true:=by kernel_rfl
     refine wp_normal (wp_region_flowJ (fun xX=>{ tmps:=#[.agg #[v1,v2,.slice a3 S.ss.length c3,.slice a4 S.cs.length c4,.slice fa F.length fc,vk,vs,vc,tv,.int .i64 most,.slice ha Hs.length hac],.pointer (some ⟨P,0,none⟩),u2,.slice ta Hs.length tc,.bool true,.slice (some ⟨bA,oA,none⟩) M.length ac,.int .i64 0,(xX 7),.int .i64 (ix:Int),.bool true,.int .i64 kk,.int .i64 0,u12,u13,u14,u15,u16,u17,u18,u19,u20,u21,u22,u23,u24,u25,u26,u27,u28,u29,u30,u31,u32,u33,u34,u35,u36,u37,u38,u39,u40,u41,u42,u43,u44,u45,u46,u47,u48,u49,u50,u51,u52,u53,u54,u55,u56,u57,u58,u59,u60,u61,u62,u63,u64,u65,u66,u67,u68,u69,u70,u71,u72,u73,u74,u75,.int .i64 (ix:Int),.slice (some ⟨bA,oA,none⟩) M.length ac,.int .i64 (M.length:Int),.bool true,u80,u81,.tuple #[.bool true,.int .i64 kk,.int .i64 0],.pointer (some ⟨P,0,none⟩),.agg #[v1,v2,.slice a3 S.ss.length c3,.slice a4 S.cs.length c4],.slice (some ⟨bA,oA,none⟩) M.length ac,.int .i64 (ix:Int),.pointer (some ⟨bA,oA + ix,none⟩),.slice fi many ci,.slice ta Hs.length tc,.tuple #[.bool true,.int .i64 kk,.int .i64 0],.bool true,.int .i64 kk,.int .i64 0,u94,u95,u96,u97,u98,u99,u100,u101,u102,u103,u104,u105,u106,u107,u108,u109,u110,u111,u112,u113,u114,u115,u116,u117,u118,u119,u120,u121,u122,u123,u124,u125,u126,u127,.bool false,(xX 129),(xX 130),(xX 131),(xX 132),(xX 133),(xX 134),(xX 135),(xX 136),(xX 137),(xX 138),(xX 139),(xX 140),undef,undef,undef,undef,undef,undef,undef,undef,undef,undef,undef,undef,undef,undef,undef,undef,undef,undef,undef,undef,undef,undef,undef,undef,undef,undef,undef,undef,undef],defers:=[] }) (fun iI v z=>match iI with
      | 0=>v = .bool false
      | 1=>v = .bool false
      | 2=>v = .slice (some ⟨bA,oA,none⟩) M.length ac
      | 3=>v = .int .i64 (ix:Int)
      | 4=>v = .pointer (some ⟨bA,oA + ix,none⟩)
      | 5=>v = .slice fi many ci
      | 6=>∃ aa,v=aa∧StV z aa [M[ix]]
      | 7=>v = .pointer (some ⟨P,4,none⟩)
      | 8=>v = .slice fa F.length fc
      | 9=>∃ aa,v=aa∧StV z aa [F]
      | 10=>v = .bool b2
      | 11=>v = .bool b2
      | 12=>v = .bool b2
      | _=>True) (JD 12 7 (.bool false) (JA 12 12 W6 (fun xX z=>xX 7 = .bool b2∧Below W6.heap.size W6 z))) (fun n=>(#[.agg #[v1,v2,.slice a3 S.ss.length c3,.slice a4 S.cs.length c4,.slice fa F.length fc,vk,vs,vc,tv,.int .i64 most,.slice ha Hs.length hac],.pointer (some ⟨P,0,none⟩),u2,.slice ta Hs.length tc,.bool true,.slice (some ⟨bA,oA,none⟩) M.length ac,.int .i64 0,.bool false,.int .i64 (ix:Int),.bool true,.int .i64 kk,.int .i64 0,u12,u13,u14,u15,u16,u17,u18,u19,u20,u21,u22,u23,u24,u25,u26,u27,u28,u29,u30,u31,u32,u33,u34,u35,u36,u37,u38,u39,u40,u41,u42,u43,u44,u45,u46,u47,u48,u49,u50,u51,u52,u53,u54,u55,u56,u57,u58,u59,u60,u61,u62,u63,u64,u65,u66,u67,u68,u69,u70,u71,u72,u73,u74,u75,.int .i64 (ix:Int),.slice (some ⟨bA,oA,none⟩) M.length ac,.int .i64 (M.length:Int),.bool true,u80,u81,.tuple #[.bool true,.int .i64 kk,.int .i64 0],.pointer (some ⟨P,0,none⟩),.agg #[v1,v2,.slice a3 S.ss.length c3,.slice a4 S.cs.length c4],.slice (some ⟨bA,oA,none⟩) M.length ac,.int .i64 (ix:Int),.pointer (some ⟨bA,oA + ix,none⟩),.slice fi many ci,.slice ta Hs.length tc,.tuple #[.bool true,.int .i64 kk,.int .i64 0],.bool true,.int .i64 kk,.int .i64 0,u94,u95,u96,u97,u98,u99,u100,u101,u102,u103,u104,u105,u106,u107,u108,u109,u110,u111,u112,u113,u114,u115,u116,u117,u118,u119,u120,u121,u122,u123,u124,u125,u126,u127,.bool false,u129,u130,u131,u132,u133,u134,u135,u136,u137,u138,u139,u140,undef,undef,undef,undef,undef,undef,undef,undef,undef,undef,undef,undef,undef,undef,undef,undef,undef,undef,undef,undef,undef,undef,undef,undef,undef,undef,undef,undef,undef]:Array Value).getD n undef) rfl hmxx (by kernel_rfl) (by kernel_rfl) (jd_start (ja_start (of_decide_eq_true (by kernel_rfl))) rfl) (jd_cong (of_decide_eq_true (by kernel_rfl)) (fun ℓ ℓ' xX w h hj=>ja_cong (of_decide_eq_true (by kernel_rfl)) (of_decide_eq_true (by kernel_rfl)) ℓ ℓ' xX w h hj)) ?put ?step ?done)
     case put =>
      intro iI oO dD ho hd xX vV
      match iI,ho with
      | 0,ho | 1,ho | 2,ho | 3,ho | 4,ho | 5,ho | 6,ho | 7,ho | 8,ho | 9,ho | 10,ho | 11,ho | 12,ho => obtain rfl:=Option.some.inj (show some _=some oO from ho); obtain rfl:=Option.some.inj (show some _=some dD from hd); rfl
      | n + 13,ho=>exact absurd (Array.getElem?_eq_some_iff.1 ho).1 (by simp)
     case step =>
      intro iI oO ho ℓ xX z hj hli hup hdl hdep K hK
      match iI,ho with
      | 0,ho =>
       obtain rfl:=Option.some.inj (show some _=some oO from ho)
       have hls:ℓ 12=false:=hup 12 12 (by kernel_rfl)
       have hPl:=fun (vv:Value) w' (hb:Below z.heap.size z w')=>jd_plain (i:=0) hj (ja_plain (i:=0) (x':=putX xX (some 129) vv) hj.1 (by decide) (by decide) hls hb) (by decide) rfl
       have q77:=hj.2 hls
       clear hdep ho hup
       dsimp only at hK ⊢
       simp only [q77] at hK ⊢
       refine wpOp_step rfl (fun K2 hK2=>?_)
       go_simp
       exact hK2 _ _ (hK _ _ (hPl _ _ (Below.refl _ _)) (fun _ _ _ _ h=>h) rfl)
      | 1,ho =>
       obtain rfl:=Option.some.inj (show some _=some oO from ho)
       have q0:xX 129 = .bool false:=hdep 0 (by kernel_rfl) _ _ rfl rfl
       have hls:ℓ 12=false:=hup 12 12 (by kernel_rfl)
       have hPl:=fun (vv:Value) w' (hb:Below z.heap.size z w')=>jd_plain (i:=1) hj (ja_plain (i:=1) (x':=putX xX (some 130) vv) hj.1 (by decide) (by decide) hls hb) (by decide) rfl
       clear hdep ho hup
       dsimp only at hK ⊢
       simp only [q0] at hK ⊢
       refine wpOp_step rfl (fun K2 hK2=>?_)
       go_simp
       exact hK2 _ _ (hK _ _ (hPl _ _ (Below.refl _ _)) (fun _ _ _ _ h=>h) rfl)
      | 2,ho =>
       obtain rfl:=Option.some.inj (show some _=some oO from ho)
       have q1:xX 130 = .bool false:=hdep 1 (by kernel_rfl) _ _ rfl rfl
       have hls:ℓ 12=false:=hup 12 12 (by kernel_rfl)
       have hPl:=fun (vv:Value) w' (hb:Below z.heap.size z w')=>jd_plain (i:=2) hj (ja_plain (i:=2) (x':=putX xX (some 131) vv) hj.1 (by decide) (by decide) hls hb) (by decide) rfl
       clear hdep ho hup
       dsimp only at hK ⊢
       simp only [q1] at hK ⊢
       refine wpOp_step rfl (fun K2 hK2=>?_)
       go_simp
       exact hK2 _ _ (hK _ _ (hPl _ _ (Below.refl _ _)) (fun _ _ _ _ h=>h) rfl)
      | 3,ho =>
       obtain rfl:=Option.some.inj (show some _=some oO from ho)
       have q1:xX 130 = .bool false:=hdep 1 (by kernel_rfl) _ _ rfl rfl
       have hls:ℓ 12=false:=hup 12 12 (by kernel_rfl)
       have hPl:=fun (vv:Value) w' (hb:Below z.heap.size z w')=>jd_plain (i:=3) hj (ja_plain (i:=3) (x':=putX xX (some 132) vv) hj.1 (by decide) (by decide) hls hb) (by decide) rfl
       clear hdep ho hup
       dsimp only at hK ⊢
       simp only [q1] at hK ⊢
       refine wpOp_step rfl (fun K2 hK2=>?_)
       go_simp
       exact hK2 _ _ (hK _ _ (hPl _ _ (Below.refl _ _)) (fun _ _ _ _ h=>h) rfl)
      | 4,ho =>
       obtain rfl:=Option.some.inj (show some _=some oO from ho)
       have q1:xX 130 = .bool false:=hdep 1 (by kernel_rfl) _ _ rfl rfl
       have q2:xX 131 = .slice (some ⟨bA,oA,none⟩) M.length ac:=hdep 2 (by kernel_rfl) _ _ rfl rfl
       have q3:xX 132 = .int .i64 (ix:Int):=hdep 3 (by kernel_rfl) _ _ rfl rfl
       have hls:ℓ 12=false:=hup 12 12 (by kernel_rfl)
       have hPl:=fun (vv:Value) w' (hb:Below z.heap.size z w')=>jd_plain (i:=4) hj (ja_plain (i:=4) (x':=putX xX (some 133) vv) hj.1 (by decide) (by decide) hls hb) (by decide) rfl
       clear hdep ho hup
       dsimp only at hK ⊢
       simp only [q1,q2,q3] at hK ⊢
       refine wpOp_step rfl (fun K2 hK2=>?_)
       go_simp
       exact hK2 _ _ (hK _ _ (hPl _ _ (Below.refl _ _)) (fun _ _ _ _ h=>h) rfl)
      | 5,ho =>
       obtain rfl:=Option.some.inj (show some _=some oO from ho)
       have q1:xX 130 = .bool false:=hdep 1 (by kernel_rfl) _ _ rfl rfl
       have q4:xX 133 = .pointer (some ⟨bA,oA + ix,none⟩):=hdep 4 (by kernel_rfl) _ _ rfl rfl
       have hls:ℓ 12=false:=hup 12 12 (by kernel_rfl)
       have hPl:=fun (vv:Value) w' (hb:Below z.heap.size z w')=>jd_plain (i:=5) hj (ja_plain (i:=5) (x':=putX xX (some 134) vv) hj.1 (by decide) (by decide) hls hb) (by decide) rfl
       have hz:=hj.1.1 (hup 12 12 (by kernel_rfl))
       obtain ⟨_,y0,_⟩:=hold2 (W0:=W4) ⟨hV6.out,q0,e4⟩ hz
       clear hdep ho hup
       dsimp only at hK ⊢
       simp only [q1,q4] at hK ⊢
       refine wpOp_step rfl (fun K2 hK2=>?_)
       go_simp
       exact hK2 _ _ (hK _ _ (hPl _ _ (Below.refl _ _)) (fun _ _ _ _ h=>h) rfl)
      | 6,ho =>
       obtain rfl:=Option.some.inj (show some _=some oO from ho)
       have q1:xX 130 = .bool false:=hdep 1 (by kernel_rfl) _ _ rfl rfl
       have q5:xX 134 = .slice fi many ci:=hdep 5 (by kernel_rfl) _ _ rfl rfl
       have hls:ℓ 12=false:=hup 12 12 (by kernel_rfl)
       have hPl:=fun (vv:Value) w' (hb:Below z.heap.size z w')=>jd_plain (i:=6) hj (ja_plain (i:=6) (x':=putX xX (some 135) vv) hj.1 (by decide) (by decide) hls hb) (by decide) rfl
       have hz:=hj.1.1 (hup 12 12 (by kernel_rfl))
       clear hdep ho hup
       dsimp only at hK ⊢
       simp only [q1,q5] at hK ⊢
       refine wpOp_step rfl (fun K2 hK2=>?_)
       go_simp
       have hb:Below z.heap.size z (z.alloc (.cells #[.slice fi many ci] 28)):=new_below _ _
       refine hK2 _ _ (hK _ _ (hPl _ _ hb) ?_ ⟨_,rfl,new_st1 (HSI.out z (below_step hV6.out hz))⟩)
       intro jj v' hlj hp h
       match jj,hlj,hp,h with
       | 0,hlj,hp,h=>exact h
       | 1,hlj,hp,h=>exact h
       | 2,hlj,hp,h=>exact h
       | 3,hlj,hp,h=>exact h
       | 4,hlj,hp,h=>exact h
       | 5,hlj,hp,h=>exact h
       | 6,hlj,hp,h=>obtain ⟨a,e,h⟩:=h; exact ⟨a,e,h.later hb⟩
       | 7,hlj,hp,h=>exact h
       | 8,hlj,hp,h=>exact h
       | 9,hlj,hp,h=>obtain ⟨a,e,h⟩:=h; exact ⟨a,e,h.later hb⟩
       | 10,hlj,hp,h=>exact h
       | 11,hlj,hp,h=>exact h
       | 12,hlj,hp,h=>exact h
       | _ + 13,_,_,_=>trivial
      | 7,ho =>
       obtain rfl:=Option.some.inj (show some _=some oO from ho)
       have q1:xX 130 = .bool false:=hdep 1 (by kernel_rfl) _ _ rfl rfl
       have hls:ℓ 12=false:=hup 12 12 (by kernel_rfl)
       have hPl:=fun (vv:Value) w' (hb:Below z.heap.size z w')=>jd_plain (i:=7) hj (ja_plain (i:=7) (x':=putX xX (some 136) vv) hj.1 (by decide) (by decide) hls hb) (by decide) rfl
       clear hdep ho hup
       dsimp only at hK ⊢
       simp only [q1] at hK ⊢
       refine wpOp_step rfl (fun K2 hK2=>?_)
       go_simp
       exact hK2 _ _ (hK _ _ (hPl _ _ (Below.refl _ _)) (fun _ _ _ _ h=>h) rfl)
      | 8,ho =>
       obtain rfl:=Option.some.inj (show some _=some oO from ho)
       have q1:xX 130 = .bool false:=hdep 1 (by kernel_rfl) _ _ rfl rfl
       have q7:xX 136 = .pointer (some ⟨P,4,none⟩):=hdep 7 (by kernel_rfl) _ _ rfl rfl
       have hls:ℓ 12=false:=hup 12 12 (by kernel_rfl)
       have hPl:=fun (vv:Value) w' (hb:Below z.heap.size z w')=>jd_plain (i:=8) hj (ja_plain (i:=8) (x':=putX xX (some 137) vv) hj.1 (by decide) (by decide) hls hb) (by decide) rfl
       have hz:=hj.1.1 (hup 12 12 (by kernel_rfl))
       obtain ⟨_,_,y0⟩:=hold2 (W0:=W4) ⟨hV6.out,q0,e4⟩ hz
       clear hdep ho hup
       dsimp only at hK ⊢
       simp only [q1,q7] at hK ⊢
       refine wpOp_step rfl (fun K2 hK2=>?_)
       go_simp
       exact hK2 _ _ (hK _ _ (hPl _ _ (Below.refl _ _)) (fun _ _ _ _ h=>h) rfl)
      | 9,ho =>
       obtain rfl:=Option.some.inj (show some _=some oO from ho)
       have q1:xX 130 = .bool false:=hdep 1 (by kernel_rfl) _ _ rfl rfl
       have q8:xX 137 = .slice fa F.length fc:=hdep 8 (by kernel_rfl) _ _ rfl rfl
       have hls:ℓ 12=false:=hup 12 12 (by kernel_rfl)
       have hPl:=fun (vv:Value) w' (hb:Below z.heap.size z w')=>jd_plain (i:=9) hj (ja_plain (i:=9) (x':=putX xX (some 138) vv) hj.1 (by decide) (by decide) hls hb) (by decide) rfl
       have hz:=hj.1.1 (hup 12 12 (by kernel_rfl))
       clear hdep ho hup
       dsimp only at hK ⊢
       simp only [q1,q8] at hK ⊢
       refine wpOp_step rfl (fun K2 hK2=>?_)
       go_simp
       have hb:Below z.heap.size z (z.alloc (.cells #[.slice fa F.length fc] 28)):=new_below _ _
       refine hK2 _ _ (hK _ _ (hPl _ _ hb) ?_ ⟨_,rfl,new_st1 (HFR.out z (below_step HZ4.out (below_step hV6.out hz)))⟩)
       intro jj v' hlj hp h
       match jj,hlj,hp,h with
       | 0,hlj,hp,h=>exact h
       | 1,hlj,hp,h=>exact h
       | 2,hlj,hp,h=>exact h
       | 3,hlj,hp,h=>exact h
       | 4,hlj,hp,h=>exact h
       | 5,hlj,hp,h=>exact h
       | 6,hlj,hp,h=>obtain ⟨a,e,h⟩:=h; exact ⟨a,e,h.later hb⟩
       | 7,hlj,hp,h=>exact h
       | 8,hlj,hp,h=>exact h
       | 9,hlj,hp,h=>obtain ⟨a,e,h⟩:=h; exact ⟨a,e,h.later hb⟩
       | 10,hlj,hp,h=>exact h
       | 11,hlj,hp,h=>exact h
       | 12,hlj,hp,h=>exact h
       | _ + 13,_,_,_=>trivial
      | 10,ho =>
       obtain rfl:=Option.some.inj (show some _=some oO from ho)
       have q1:xX 130 = .bool false:=hdep 1 (by kernel_rfl) _ _ rfl rfl
       have h6:∃ aa,xX 135=aa∧StV z aa [M[ix]]:=hdep 6 (by kernel_rfl) _ _ rfl rfl
       obtain ⟨a6,q6,r6⟩:=h6
       have h9:∃ aa,xX 138=aa∧StV z aa [F]:=hdep 9 (by kernel_rfl) _ _ rfl rfl
       obtain ⟨a9,q9,r9⟩:=h9
       have hls:ℓ 12=false:=hup 12 12 (by kernel_rfl)
       have hPl:=fun (vv:Value) w' (hb:Below z.heap.size z w')=>jd_plain (i:=10) hj (ja_plain (i:=10) (x':=putX xX (some 139) vv) hj.1 (by decide) (by decide) hls hb) (by decide) rfl
       have hz:=hj.1.1 (hup 12 12 (by kernel_rfl))
       clear hdep ho hup
       dsimp only at hK ⊢
       simp only [q1,q6,q9] at hK ⊢
       refine wpOp_step rfl (fun K2 hK2=>?_)
       go_simp
       refine (HSS.out _ _ z r6 r9).mono ?_
       rintro e z1 ⟨rfl,hb⟩
       refine hK2 _ _ (hK _ _ (hPl _ _ hb) ?_ (by rw [HB2.out]))
       intro jj v' hlj hp h
       match jj,hlj,hp,h with
       | 0,hlj,hp,h=>exact h
       | 1,hlj,hp,h=>exact h
       | 2,hlj,hp,h=>exact h
       | 3,hlj,hp,h=>exact h
       | 4,hlj,hp,h=>exact h
       | 5,hlj,hp,h=>exact h
       | 6,hlj,hp,h=>obtain ⟨a,e,h⟩:=h; exact ⟨a,e,h.later hb⟩
       | 7,hlj,hp,h=>exact h
       | 8,hlj,hp,h=>exact h
       | 9,hlj,hp,h=>obtain ⟨a,e,h⟩:=h; exact ⟨a,e,h.later hb⟩
       | 10,hlj,hp,h=>exact h
       | 11,hlj,hp,h=>exact h
       | 12,hlj,hp,h=>exact h
       | _ + 13,_,_,_=>trivial
      | 11,ho =>
       obtain rfl:=Option.some.inj (show some _=some oO from ho)
       have q1:xX 130 = .bool false:=hdep 1 (by kernel_rfl) _ _ rfl rfl
       have q10:xX 139 = .bool b2:=hdep 10 (by kernel_rfl) _ _ rfl rfl
       have hls:ℓ 12=false:=hup 12 12 (by kernel_rfl)
       have hPl:=fun (vv:Value) w' (hb:Below z.heap.size z w')=>jd_plain (i:=11) hj (ja_plain (i:=11) (x':=putX xX (some 140) vv) hj.1 (by decide) (by decide) hls hb) (by decide) rfl
       clear hdep ho hup
       dsimp only at hK ⊢
       simp only [q1,q10] at hK ⊢
       refine wpOp_step rfl (fun K2 hK2=>?_)
       go_simp
       exact hK2 _ _ (hK _ _ (hPl _ _ (Below.refl _ _)) (fun _ _ _ _ h=>h) rfl)
      | 12,ho =>
       obtain rfl:=Option.some.inj (show some _=some oO from ho)
       have q11:xX 140 = .bool b2:=hdep 11 (by kernel_rfl) _ _ rfl rfl
       have hz:=hj.1.1 hli
       clear hdep ho hup
       dsimp only at hK ⊢
       simp only [q11] at hK ⊢
       refine wpOp_step rfl (fun K2 hK2=>?_)
       go_simp
       exact hK2 _ _ (hK _ _ (jd_last (ja_last (.inl rfl) ⟨rfl,hz⟩)) (fun _ _ _ hp _=>absurd hp (lastB_spec (by kernel_rfl) hdl)) rfl)
      | n + 13,ho=>exact absurd (Array.getElem?_eq_some_iff.1 ho).1 (by simp)
     case done =>
      intro ℓ xX z hall hj
      have hf:=hj.1.2 (hall 12 (of_decide_eq_true (by kernel_rfl)))
      obtain ⟨q12,hz⟩:=hf
      have HV7:=Lib.hid (below_step hV6.out hz)
      clear hj hall hz
      dsimp only
      simp only [q12]
      go_wp2
      go_roundw
      case rel=>exact ⟨b2,ix + 1,by omega,rfl,by go_num,HBN,HV7⟩
      case measure=>simp [intOf]; omega
   ·have hi2:¬ (ix:Int) < (M.length:Int):=by omega
    have hie:ix=M.length:=by omega
    have hen:=fnd_end HFN.out
    rw [hie] at hbb
    rw [← hbb.out] at hen
    have hi5:(0:Int) < (M.length:Int):=by have:=HFN.out.ne; omega
    have hi6:0 < M.length:=HFN.out.ne
    have hle:(many:Int)≤(F.length:Int):=by have:=HFN.out.few; omega
    obtain ⟨bA,oA,_,ev,_,p0⟩:=(HST.out.later hV.out).at' HFN.out.ne
    cases ev
    rw [Nat.add_zero] at p0
    obtain ⟨f0,c0,e00⟩:=((HST.out.later hV.out).st 0 HFN.out.ne).ftForm
    rw [HFN.out.sz 0 HFN.out.ne] at e00
    rw [e00] at p0
    obtain ⟨_,_,_,_,e4,_,_,_,_,_,_⟩:=case_cells K0.out (below_step HZ4.out hV.out)
    have hh:=hold2 (W0:=W4) ⟨hV.out,p0,e4⟩ (Below.refl _ wr)
    clear p0 e4 hie hbb e00
    go_upto_region 17 with fail
    cases bb with
    | true =>
     clear hen
     have hmxx:Tryz.prog.follows .mixedOrders=true:=by kernel_rfl
     refine wp_plain (wp_region_flow (fun x=>{ tmps:=#[.agg #[v1,v2,.slice a3 S.ss.length c3,.slice a4 S.cs.length c4,.slice fa F.length fc,vk,vs,vc,tv,.int .i64 most,.slice ha Hs.length hac],.pointer (some ⟨P,0,none⟩),(x 2),.slice ta Hs.length tc,.bool true,.slice (some ⟨bA,oA,none⟩) M.length ac,.int .i64 0,.bool true,.int .i64 (ix:Int),u9,u10,u11,u12,u13,u14,u15,u16,u17,u18,u19,u20,u21,u22,u23,u24,u25,u26,u27,u28,u29,u30,u31,u32,u33,u34,u35,u36,u37,u38,u39,u40,u41,u42,u43,u44,u45,u46,u47,u48,u49,u50,u51,u52,u53,u54,u55,u56,u57,u58,u59,u60,u61,u62,u63,u64,u65,u66,u67,u68,u69,u70,u71,u72,u73,u74,u75,.int .i64 (ix:Int),.slice (some ⟨bA,oA,none⟩) M.length ac,.int .i64 (M.length:Int),.bool false,u80,u81,u82,u83,u84,u85,u86,u87,u88,u89,u90,u91,u92,u93,u94,u95,u96,u97,u98,u99,u100,u101,u102,u103,u104,u105,u106,u107,u108,u109,u110,u111,u112,u113,u114,u115,u116,u117,u118,u119,u120,u121,u122,u123,u124,u125,u126,u127,u128,u129,u130,u131,u132,u133,u134,u135,u136,u137,u138,u139,u140,(x 141),(x 142),(x 143),(x 144),(x 145),(x 146),(x 147),(x 148),(x 149),(x 150),(x 151),(x 152),(x 153),(x 154),(x 155),(x 156),(x 157),(x 158),(x 159),(x 160),(x 161),(x 162),(x 163),(x 164),(x 165),(x 166),(x 167),(x 168),(x 169)],defers:=[] }) (fun i v z=>match i with
      | 0=>v = .slice (some ⟨bA,oA,none⟩) M.length ac
      | 1=>v = .int .i64 (M.length:Int)
      | 2=>v = .bool true
      | 3=>v = .bool true
      | 4=>v = .slice (some ⟨bA,oA,none⟩) M.length ac
      | 5=>v = .pointer (some ⟨bA,oA,none⟩)
      | 6=>v = .slice f0 many c0
      | 7=>v = .int .i64 (many:Int)
      | 8=>v = .pointer (some ⟨P,4,none⟩)
      | 9=>v = .slice fa F.length fc
      | 10=>v = .int .i64 (F.length:Int)
      | 11=>v = .bool true
      | 12=>v = .bool true
      | 13=>v = .bool true
      | 14=>v = .bool true
      | 15=>v = .bool true
      | 16=>v=undef
      | 17=>v=undef
      | 18=>v=undef
      | 19=>v=undef
      | 20=>v=undef
      | 21=>v=undef
      | 22=>v=undef
      | 23=>v=undef
      | 24=>v = .bool true
      | 25=>v = .bool true
      | 26=>v = .bool true
      | 27=>v = .bool true
      | 28=>v = .bool true
      | 29=>v = .bool true
      | _=>True) (fun n=>(#[.agg #[v1,v2,.slice a3 S.ss.length c3,.slice a4 S.cs.length c4,.slice fa F.length fc,vk,vs,vc,tv,.int .i64 most,.slice ha Hs.length hac],.pointer (some ⟨P,0,none⟩),u2,.slice ta Hs.length tc,.bool true,.slice (some ⟨bA,oA,none⟩) M.length ac,.int .i64 0,.bool true,.int .i64 (ix:Int),u9,u10,u11,u12,u13,u14,u15,u16,u17,u18,u19,u20,u21,u22,u23,u24,u25,u26,u27,u28,u29,u30,u31,u32,u33,u34,u35,u36,u37,u38,u39,u40,u41,u42,u43,u44,u45,u46,u47,u48,u49,u50,u51,u52,u53,u54,u55,u56,u57,u58,u59,u60,u61,u62,u63,u64,u65,u66,u67,u68,u69,u70,u71,u72,u73,u74,u75,.int .i64 (ix:Int),.slice (some ⟨bA,oA,none⟩) M.length ac,.int .i64 (M.length:Int),.bool false,u80,u81,u82,u83,u84,u85,u86,u87,u88,u89,u90,u91,u92,u93,u94,u95,u96,u97,u98,u99,u100,u101,u102,u103,u104,u105,u106,u107,u108,u109,u110,u111,u112,u113,u114,u115,u116,u117,u118,u119,u120,u121,u122,u123,u124,u125,u126,u127,u128,u129,u130,u131,u132,u133,u134,u135,u136,u137,u138,u139,u140,undef,undef,undef,undef,undef,undef,undef,undef,undef,undef,undef,undef,undef,undef,undef,undef,undef,undef,undef,undef,undef,undef,undef,undef,undef,undef,undef,undef,undef]:Array Value).getD n undef) rfl hmxx (by kernel_rfl) (by kernel_rfl) ?mono ?put ?step ?done)
     case mono =>
      intro i v z z' h hb
      match i,h with
      | 0,h | 1,h | 2,h | 3,h | 4,h | 5,h | 6,h | 7,h | 8,h | 9,h | 10,h | 11,h | 12,h | 13,h | 14,h | 15,h | 16,h | 17,h | 18,h | 19,h | 20,h | 21,h | 22,h | 23,h | 24,h | 25,h | 26,h | 27,h | 28,h | 29,h => exact h
      | _ + 30,_=>trivial
     case put =>
      intro i o d ho hd x v
      match i,ho with
      | 0,ho | 1,ho | 2,ho | 3,ho | 4,ho | 5,ho | 6,ho | 7,ho | 8,ho | 9,ho | 10,ho | 11,ho | 12,ho | 13,ho | 14,ho | 15,ho | 16,ho | 17,ho | 18,ho | 19,ho | 20,ho | 21,ho | 22,ho | 23,ho | 24,ho | 25,ho | 26,ho | 27,ho | 28,ho | 29,ho => obtain rfl:=Option.some.inj (show some _=some o from ho); obtain rfl:=Option.some.inj (show some _=some d from hd); rfl
      | n + 30,ho=>exact absurd (Array.getElem?_eq_some_iff.1 ho).1 (by simp)
     case step =>
      intro i o ho x z hz hdep K hK
      match i,ho with
      | 0,ho =>
       obtain rfl:=Option.some.inj (show some _=some o from ho)
       clear hdep ho
       dsimp only at hK ⊢
       refine wpOp_step rfl (fun K2 hK2=>?_)
       go_simp
       exact hK2 _ _ (hK _ _ (Below.refl _ _) rfl)
      | 1,ho =>
       obtain rfl:=Option.some.inj (show some _=some o from ho)
       have q0:x 141 = .slice (some ⟨bA,oA,none⟩) M.length ac:=hdep 0 (by kernel_rfl) _ _ rfl rfl
       clear hdep ho
       dsimp only at hK ⊢
       simp only [q0] at hK ⊢
       refine wpOp_step rfl (fun K2 hK2=>?_)
       go_simp
       exact hK2 _ _ (hK _ _ (Below.refl _ _) rfl)
      | 2,ho =>
       obtain rfl:=Option.some.inj (show some _=some o from ho)
       have q1:x 142 = .int .i64 (M.length:Int):=hdep 1 (by kernel_rfl) _ _ rfl rfl
       clear hdep ho
       dsimp only at hK ⊢
       simp only [q1] at hK ⊢
       refine wpOp_step rfl (fun K2 hK2=>?_)
       go_simp
       exact hK2 _ _ (hK _ _ (Below.refl _ _) rfl)
      | 3,ho =>
       obtain rfl:=Option.some.inj (show some _=some o from ho)
       have q2:x 143 = .bool true:=hdep 2 (by kernel_rfl) _ _ rfl rfl
       clear hdep ho
       dsimp only at hK ⊢
       simp only [q2] at hK ⊢
       refine wpOp_step rfl (fun K2 hK2=>?_)
       go_simp
       exact hK2 _ _ (hK _ _ (Below.refl _ _) rfl)
      | 4,ho | 8,ho =>
       obtain rfl:=Option.some.inj (show some _=some o from ho)
       have q3:x 144 = .bool true:=hdep 3 (by kernel_rfl) _ _ rfl rfl
       clear hdep ho
       dsimp only at hK ⊢
       simp only [q3] at hK ⊢
       refine wpOp_step rfl (fun K2 hK2=>?_)
       go_simp
       exact hK2 _ _ (hK _ _ (Below.refl _ _) rfl)
      | 5,ho =>
       obtain rfl:=Option.some.inj (show some _=some o from ho)
       have q3:x 144 = .bool true:=hdep 3 (by kernel_rfl) _ _ rfl rfl
       have q4:x 145 = .slice (some ⟨bA,oA,none⟩) M.length ac:=hdep 4 (by kernel_rfl) _ _ rfl rfl
       clear hdep ho
       dsimp only at hK ⊢
       simp only [q3,q4] at hK ⊢
       refine wpOp_step rfl (fun K2 hK2=>?_)
       go_simp
       exact hK2 _ _ (hK _ _ (Below.refl _ _) rfl)
      | 6,ho =>
       obtain rfl:=Option.some.inj (show some _=some o from ho)
       have q3:x 144 = .bool true:=hdep 3 (by kernel_rfl) _ _ rfl rfl
       have q5:x 146 = .pointer (some ⟨bA,oA,none⟩):=hdep 5 (by kernel_rfl) _ _ rfl rfl
       obtain ⟨_,y0,_⟩:=hold2 (W0:=W4) hh hz
       clear hdep ho
       dsimp only at hK ⊢
       simp only [q3,q5] at hK ⊢
       refine wpOp_step rfl (fun K2 hK2=>?_)
       go_simp
       exact hK2 _ _ (hK _ _ (Below.refl _ _) rfl)
      | 7,ho =>
       obtain rfl:=Option.some.inj (show some _=some o from ho)
       have q3:x 144 = .bool true:=hdep 3 (by kernel_rfl) _ _ rfl rfl
       have q6:x 147 = .slice f0 many c0:=hdep 6 (by kernel_rfl) _ _ rfl rfl
       clear hdep ho
       dsimp only at hK ⊢
       simp only [q3,q6] at hK ⊢
       refine wpOp_step rfl (fun K2 hK2=>?_)
       go_simp
       exact hK2 _ _ (hK _ _ (Below.refl _ _) rfl)
      | 9,ho =>
       obtain rfl:=Option.some.inj (show some _=some o from ho)
       have q3:x 144 = .bool true:=hdep 3 (by kernel_rfl) _ _ rfl rfl
       have q8:x 149 = .pointer (some ⟨P,4,none⟩):=hdep 8 (by kernel_rfl) _ _ rfl rfl
       obtain ⟨_,_,y0⟩:=hold2 (W0:=W4) hh hz
       clear hdep ho
       dsimp only at hK ⊢
       simp only [q3,q8] at hK ⊢
       refine wpOp_step rfl (fun K2 hK2=>?_)
       go_simp
       exact hK2 _ _ (hK _ _ (Below.refl _ _) rfl)
      | 10,ho =>
       obtain rfl:=Option.some.inj (show some _=some o from ho)
       have q3:x 144 = .bool true:=hdep 3 (by kernel_rfl) _ _ rfl rfl
       have q9:x 150 = .slice fa F.length fc:=hdep 9 (by kernel_rfl) _ _ rfl rfl
       clear hdep ho
       dsimp only at hK ⊢
       simp only [q3,q9] at hK ⊢
       refine wpOp_step rfl (fun K2 hK2=>?_)
       go_simp
       exact hK2 _ _ (hK _ _ (Below.refl _ _) rfl)
      | 11,ho =>
       obtain rfl:=Option.some.inj (show some _=some o from ho)
       have q3:x 144 = .bool true:=hdep 3 (by kernel_rfl) _ _ rfl rfl
       have q7:x 148 = .int .i64 (many:Int):=hdep 7 (by kernel_rfl) _ _ rfl rfl
       have q10:x 151 = .int .i64 (F.length:Int):=hdep 10 (by kernel_rfl) _ _ rfl rfl
       clear hdep ho
       dsimp only at hK ⊢
       simp only [q3,q7,q10] at hK ⊢
       refine wpOp_step rfl (fun K2 hK2=>?_)
       go_simp
       exact hK2 _ _ (hK _ _ (Below.refl _ _) rfl)
      | 12,ho =>
       obtain rfl:=Option.some.inj (show some _=some o from ho)
       have q3:x 144 = .bool true:=hdep 3 (by kernel_rfl) _ _ rfl rfl
       have q11:x 152 = .bool true:=hdep 11 (by kernel_rfl) _ _ rfl rfl
       clear hdep ho
       dsimp only at hK ⊢
       simp only [q3,q11] at hK ⊢
       refine wpOp_step rfl (fun K2 hK2=>?_)
       go_simp
       exact hK2 _ _ (hK _ _ (Below.refl _ _) rfl)
      | 13,ho =>
       obtain rfl:=Option.some.inj (show some _=some o from ho)
       have q12:x 153 = .bool true:=hdep 12 (by kernel_rfl) _ _ rfl rfl
       clear hdep ho
       dsimp only at hK ⊢
       simp only [q12] at hK ⊢
       refine wpOp_step rfl (fun K2 hK2=>?_)
       go_simp
       exact hK2 _ _ (hK _ _ (Below.refl _ _) rfl)
      | 14,ho =>
       obtain rfl:=Option.some.inj (show some _=some o from ho)
       have q13:x 154 = .bool true:=hdep 13 (by kernel_rfl) _ _ rfl rfl
       clear hdep ho
       dsimp only at hK ⊢
       simp only [q13] at hK ⊢
       refine wpOp_step rfl (fun K2 hK2=>?_)
       go_simp
       exact hK2 _ _ (hK _ _ (Below.refl _ _) rfl)
      | 15,ho =>
       obtain rfl:=Option.some.inj (show some _=some o from ho)
       have q13:x 154 = .bool true:=hdep 13 (by kernel_rfl) _ _ rfl rfl
       have q14:x 155 = .bool true:=hdep 14 (by kernel_rfl) _ _ rfl rfl
       clear hdep ho
       dsimp only at hK ⊢
       simp only [q13,q14] at hK ⊢
       refine wpOp_step rfl (fun K2 hK2=>?_)
       go_simp
       exact hK2 _ _ (hK _ _ (Below.refl _ _) rfl)
      | 16,ho | 17,ho | 18,ho | 19,ho | 20,ho | 21,ho | 22,ho | 23,ho =>
       obtain rfl:=Option.some.inj (show some _=some o from ho)
       have q15:x 156 = .bool true:=hdep 15 (by kernel_rfl) _ _ rfl rfl
       clear hdep ho
       dsimp only at hK ⊢
       simp only [q15] at hK ⊢
       refine wpOp_step rfl (fun K2 hK2=>?_)
       go_simp
       exact hK2 _ _ (hK _ _ (Below.refl _ _) rfl)
      | 24,ho =>
       obtain rfl:=Option.some.inj (show some _=some o from ho)
       have q13:x 154 = .bool true:=hdep 13 (by kernel_rfl) _ _ rfl rfl
       have q15:x 156 = .bool true:=hdep 15 (by kernel_rfl) _ _ rfl rfl
       have q23:x 164=undef:=hdep 23 (by kernel_rfl) _ _ rfl rfl
       clear hdep ho
       dsimp only at hK ⊢
       simp only [q13,q15,q23] at hK ⊢
       refine wpOp_step rfl (fun K2 hK2=>?_)
       go_simp
       exact hK2 _ _ (hK _ _ (Below.refl _ _) rfl)
      | 25,ho =>
       obtain rfl:=Option.some.inj (show some _=some o from ho)
       have q13:x 154 = .bool true:=hdep 13 (by kernel_rfl) _ _ rfl rfl
       have q24:x 165 = .bool true:=hdep 24 (by kernel_rfl) _ _ rfl rfl
       clear hdep ho
       dsimp only at hK ⊢
       simp only [q13,q24] at hK ⊢
       refine wpOp_step rfl (fun K2 hK2=>?_)
       go_simp
       exact hK2 _ _ (hK _ _ (Below.refl _ _) rfl)
      | 26,ho =>
       obtain rfl:=Option.some.inj (show some _=some o from ho)
       have q25:x 166 = .bool true:=hdep 25 (by kernel_rfl) _ _ rfl rfl
       clear hdep ho
       dsimp only at hK ⊢
       simp only [q25] at hK ⊢
       refine wpOp_step rfl (fun K2 hK2=>?_)
       go_simp
       exact hK2 _ _ (hK _ _ (Below.refl _ _) rfl)
      | 27,ho =>
       obtain rfl:=Option.some.inj (show some _=some o from ho)
       have q26:x 167 = .bool true:=hdep 26 (by kernel_rfl) _ _ rfl rfl
       clear hdep ho
       dsimp only at hK ⊢
       simp only [q26] at hK ⊢
       refine wpOp_step rfl (fun K2 hK2=>?_)
       go_simp
       refine (HSH.out z (below_step HZ4.out (below_step hh.1 hz))).mono ?_
       rintro e z1 ⟨rfl,hb⟩
       exact hK2 _ _ (hK _ _ hb rfl)
      | 28,ho =>
       obtain rfl:=Option.some.inj (show some _=some o from ho)
       have q26:x 167 = .bool true:=hdep 26 (by kernel_rfl) _ _ rfl rfl
       have q27:x 168 = .bool true:=hdep 27 (by kernel_rfl) _ _ rfl rfl
       clear hdep ho
       dsimp only at hK ⊢
       simp only [q26,q27] at hK ⊢
       refine wpOp_step rfl (fun K2 hK2=>?_)
       go_simp
       exact hK2 _ _ (hK _ _ (Below.refl _ _) rfl)
      | 29,ho =>
       obtain rfl:=Option.some.inj (show some _=some o from ho)
       have q28:x 169 = .bool true:=hdep 28 (by kernel_rfl) _ _ rfl rfl
       clear hdep ho
       dsimp only at hK ⊢
       simp only [q28] at hK ⊢
       refine wpOp_step rfl (fun K2 hK2=>?_)
       go_simp
       exact hK2 _ _ (hK _ _ (Below.refl _ _) rfl)
      | n + 30,ho=>exact absurd (Array.getElem?_eq_some_iff.1 ho).1 (by simp)
     case done =>
      intro x z hz hres
      have q29:x 2 = .bool true:=hres 29 _ _ rfl rfl
      have HZ9:=Lib.hid (below_step HB0.out (below_step HZ4.out (below_step hh.1 hz)))
      clear hres hz
      dsimp only
      simp only [q29]
      go_wp2
      go_ret
      exact ⟨rfl,HZ9.out⟩
    | false =>
     have hlt:(many:Int) < (F.length:Int):=hen.resolve_left (by decide)
     clear hen
     have hmxx:Tryz.prog.follows .mixedOrders=true:=by kernel_rfl
     refine wp_plain (wp_region_flow (fun x=>{ tmps:=#[.agg #[v1,v2,.slice a3 S.ss.length c3,.slice a4 S.cs.length c4,.slice fa F.length fc,vk,vs,vc,tv,.int .i64 most,.slice ha Hs.length hac],.pointer (some ⟨P,0,none⟩),(x 2),.slice ta Hs.length tc,.bool true,.slice (some ⟨bA,oA,none⟩) M.length ac,.int .i64 0,.bool false,.int .i64 (ix:Int),u9,u10,u11,u12,u13,u14,u15,u16,u17,u18,u19,u20,u21,u22,u23,u24,u25,u26,u27,u28,u29,u30,u31,u32,u33,u34,u35,u36,u37,u38,u39,u40,u41,u42,u43,u44,u45,u46,u47,u48,u49,u50,u51,u52,u53,u54,u55,u56,u57,u58,u59,u60,u61,u62,u63,u64,u65,u66,u67,u68,u69,u70,u71,u72,u73,u74,u75,.int .i64 (ix:Int),.slice (some ⟨bA,oA,none⟩) M.length ac,.int .i64 (M.length:Int),.bool false,u80,u81,u82,u83,u84,u85,u86,u87,u88,u89,u90,u91,u92,u93,u94,u95,u96,u97,u98,u99,u100,u101,u102,u103,u104,u105,u106,u107,u108,u109,u110,u111,u112,u113,u114,u115,u116,u117,u118,u119,u120,u121,u122,u123,u124,u125,u126,u127,u128,u129,u130,u131,u132,u133,u134,u135,u136,u137,u138,u139,u140,(x 141),(x 142),(x 143),(x 144),(x 145),(x 146),(x 147),(x 148),(x 149),(x 150),(x 151),(x 152),(x 153),(x 154),(x 155),(x 156),(x 157),(x 158),(x 159),(x 160),(x 161),(x 162),(x 163),(x 164),(x 165),(x 166),(x 167),(x 168),(x 169)],defers:=[] }) (fun i v z=>match i with
      | 0=>v = .slice (some ⟨bA,oA,none⟩) M.length ac
      | 1=>v = .int .i64 (M.length:Int)
      | 2=>v = .bool true
      | 3=>v = .bool true
      | 4=>v = .slice (some ⟨bA,oA,none⟩) M.length ac
      | 5=>v = .pointer (some ⟨bA,oA,none⟩)
      | 6=>v = .slice f0 many c0
      | 7=>v = .int .i64 (many:Int)
      | 8=>v = .pointer (some ⟨P,4,none⟩)
      | 9=>v = .slice fa F.length fc
      | 10=>v = .int .i64 (F.length:Int)
      | 11=>v = .bool true
      | 12=>v = .bool true
      | 13=>v = .bool true
      | 14=>v = .bool false
      | 15=>v = .bool false
      | 16=>v = .slice (some ⟨bA,oA,none⟩) M.length ac
      | 17=>v = .pointer (some ⟨bA,oA,none⟩)
      | 18=>v = .slice f0 many c0
      | 19=>v = .int .i64 (many:Int)
      | 20=>v = .pointer (some ⟨P,4,none⟩)
      | 21=>v = .slice fa F.length fc
      | 22=>v = .int .i64 (F.length:Int)
      | 23=>v = .bool true
      | 24=>v = .bool true
      | 25=>v = .bool true
      | 26=>v = .bool true
      | 27=>v = .bool true
      | 28=>v = .bool true
      | 29=>v = .bool true
      | _=>True) (fun n=>(#[.agg #[v1,v2,.slice a3 S.ss.length c3,.slice a4 S.cs.length c4,.slice fa F.length fc,vk,vs,vc,tv,.int .i64 most,.slice ha Hs.length hac],.pointer (some ⟨P,0,none⟩),u2,.slice ta Hs.length tc,.bool true,.slice (some ⟨bA,oA,none⟩) M.length ac,.int .i64 0,.bool false,.int .i64 (ix:Int),u9,u10,u11,u12,u13,u14,u15,u16,u17,u18,u19,u20,u21,u22,u23,u24,u25,u26,u27,u28,u29,u30,u31,u32,u33,u34,u35,u36,u37,u38,u39,u40,u41,u42,u43,u44,u45,u46,u47,u48,u49,u50,u51,u52,u53,u54,u55,u56,u57,u58,u59,u60,u61,u62,u63,u64,u65,u66,u67,u68,u69,u70,u71,u72,u73,u74,u75,.int .i64 (ix:Int),.slice (some ⟨bA,oA,none⟩) M.length ac,.int .i64 (M.length:Int),.bool false,u80,u81,u82,u83,u84,u85,u86,u87,u88,u89,u90,u91,u92,u93,u94,u95,u96,u97,u98,u99,u100,u101,u102,u103,u104,u105,u106,u107,u108,u109,u110,u111,u112,u113,u114,u115,u116,u117,u118,u119,u120,u121,u122,u123,u124,u125,u126,u127,u128,u129,u130,u131,u132,u133,u134,u135,u136,u137,u138,u139,u140,undef,undef,undef,undef,undef,undef,undef,undef,undef,undef,undef,undef,undef,undef,undef,undef,undef,undef,undef,undef,undef,undef,undef,undef,undef,undef,undef,undef,undef]:Array Value).getD n undef) rfl hmxx (by kernel_rfl) (by kernel_rfl) ?mono ?put ?step ?done)
     case mono =>
      intro i v z z' h hb
      match i,h with
      | 0,h | 1,h | 2,h | 3,h | 4,h | 5,h | 6,h | 7,h | 8,h | 9,h | 10,h | 11,h | 12,h | 13,h | 14,h | 15,h | 16,h | 17,h | 18,h | 19,h | 20,h | 21,h | 22,h | 23,h | 24,h | 25,h | 26,h | 27,h | 28,h | 29,h => exact h
      | _ + 30,_=>trivial
     case put =>
      intro i o d ho hd x v
      match i,ho with
      | 0,ho | 1,ho | 2,ho | 3,ho | 4,ho | 5,ho | 6,ho | 7,ho | 8,ho | 9,ho | 10,ho | 11,ho | 12,ho | 13,ho | 14,ho | 15,ho | 16,ho | 17,ho | 18,ho | 19,ho | 20,ho | 21,ho | 22,ho | 23,ho | 24,ho | 25,ho | 26,ho | 27,ho | 28,ho | 29,ho => obtain rfl:=Option.some.inj (show some _=some o from ho); obtain rfl:=Option.some.inj (show some _=some d from hd); rfl
      | n + 30,ho=>exact absurd (Array.getElem?_eq_some_iff.1 ho).1 (by simp)
     case step =>
      intro i o ho x z hz hdep K hK
      match i,ho with
      | 0,ho =>
       obtain rfl:=Option.some.inj (show some _=some o from ho)
       clear hdep ho
       dsimp only at hK ⊢
       refine wpOp_step rfl (fun K2 hK2=>?_)
       go_simp
       exact hK2 _ _ (hK _ _ (Below.refl _ _) rfl)
      | 1,ho =>
       obtain rfl:=Option.some.inj (show some _=some o from ho)
       have q0:x 141 = .slice (some ⟨bA,oA,none⟩) M.length ac:=hdep 0 (by kernel_rfl) _ _ rfl rfl
       clear hdep ho
       dsimp only at hK ⊢
       simp only [q0] at hK ⊢
       refine wpOp_step rfl (fun K2 hK2=>?_)
       go_simp
       exact hK2 _ _ (hK _ _ (Below.refl _ _) rfl)
      | 2,ho =>
       obtain rfl:=Option.some.inj (show some _=some o from ho)
       have q1:x 142 = .int .i64 (M.length:Int):=hdep 1 (by kernel_rfl) _ _ rfl rfl
       clear hdep ho
       dsimp only at hK ⊢
       simp only [q1] at hK ⊢
       refine wpOp_step rfl (fun K2 hK2=>?_)
       go_simp
       exact hK2 _ _ (hK _ _ (Below.refl _ _) rfl)
      | 3,ho =>
       obtain rfl:=Option.some.inj (show some _=some o from ho)
       have q2:x 143 = .bool true:=hdep 2 (by kernel_rfl) _ _ rfl rfl
       clear hdep ho
       dsimp only at hK ⊢
       simp only [q2] at hK ⊢
       refine wpOp_step rfl (fun K2 hK2=>?_)
       go_simp
       exact hK2 _ _ (hK _ _ (Below.refl _ _) rfl)
      | 4,ho | 8,ho =>
       obtain rfl:=Option.some.inj (show some _=some o from ho)
       have q3:x 144 = .bool true:=hdep 3 (by kernel_rfl) _ _ rfl rfl
       clear hdep ho
       dsimp only at hK ⊢
       simp only [q3] at hK ⊢
       refine wpOp_step rfl (fun K2 hK2=>?_)
       go_simp
       exact hK2 _ _ (hK _ _ (Below.refl _ _) rfl)
      | 5,ho =>
       obtain rfl:=Option.some.inj (show some _=some o from ho)
       have q3:x 144 = .bool true:=hdep 3 (by kernel_rfl) _ _ rfl rfl
       have q4:x 145 = .slice (some ⟨bA,oA,none⟩) M.length ac:=hdep 4 (by kernel_rfl) _ _ rfl rfl
       clear hdep ho
       dsimp only at hK ⊢
       simp only [q3,q4] at hK ⊢
       refine wpOp_step rfl (fun K2 hK2=>?_)
       go_simp
       exact hK2 _ _ (hK _ _ (Below.refl _ _) rfl)
      | 6,ho =>
       obtain rfl:=Option.some.inj (show some _=some o from ho)
       have q3:x 144 = .bool true:=hdep 3 (by kernel_rfl) _ _ rfl rfl
       have q5:x 146 = .pointer (some ⟨bA,oA,none⟩):=hdep 5 (by kernel_rfl) _ _ rfl rfl
       obtain ⟨_,y0,_⟩:=hold2 (W0:=W4) hh hz
       clear hdep ho
       dsimp only at hK ⊢
       simp only [q3,q5] at hK ⊢
       refine wpOp_step rfl (fun K2 hK2=>?_)
       go_simp
       exact hK2 _ _ (hK _ _ (Below.refl _ _) rfl)
      | 7,ho =>
       obtain rfl:=Option.some.inj (show some _=some o from ho)
       have q3:x 144 = .bool true:=hdep 3 (by kernel_rfl) _ _ rfl rfl
       have q6:x 147 = .slice f0 many c0:=hdep 6 (by kernel_rfl) _ _ rfl rfl
       clear hdep ho
       dsimp only at hK ⊢
       simp only [q3,q6] at hK ⊢
       refine wpOp_step rfl (fun K2 hK2=>?_)
       go_simp
       exact hK2 _ _ (hK _ _ (Below.refl _ _) rfl)
      | 9,ho =>
       obtain rfl:=Option.some.inj (show some _=some o from ho)
       have q3:x 144 = .bool true:=hdep 3 (by kernel_rfl) _ _ rfl rfl
       have q8:x 149 = .pointer (some ⟨P,4,none⟩):=hdep 8 (by kernel_rfl) _ _ rfl rfl
       obtain ⟨_,_,y0⟩:=hold2 (W0:=W4) hh hz
       clear hdep ho
       dsimp only at hK ⊢
       simp only [q3,q8] at hK ⊢
       refine wpOp_step rfl (fun K2 hK2=>?_)
       go_simp
       exact hK2 _ _ (hK _ _ (Below.refl _ _) rfl)
      | 10,ho =>
       obtain rfl:=Option.some.inj (show some _=some o from ho)
       have q3:x 144 = .bool true:=hdep 3 (by kernel_rfl) _ _ rfl rfl
       have q9:x 150 = .slice fa F.length fc:=hdep 9 (by kernel_rfl) _ _ rfl rfl
       clear hdep ho
       dsimp only at hK ⊢
       simp only [q3,q9] at hK ⊢
       refine wpOp_step rfl (fun K2 hK2=>?_)
       go_simp
       exact hK2 _ _ (hK _ _ (Below.refl _ _) rfl)
      | 11,ho =>
       obtain rfl:=Option.some.inj (show some _=some o from ho)
       have q3:x 144 = .bool true:=hdep 3 (by kernel_rfl) _ _ rfl rfl
       have q7:x 148 = .int .i64 (many:Int):=hdep 7 (by kernel_rfl) _ _ rfl rfl
       have q10:x 151 = .int .i64 (F.length:Int):=hdep 10 (by kernel_rfl) _ _ rfl rfl
       clear hdep ho
       dsimp only at hK ⊢
       simp only [q3,q7,q10] at hK ⊢
       refine wpOp_step rfl (fun K2 hK2=>?_)
       go_simp
       exact hK2 _ _ (hK _ _ (Below.refl _ _) rfl)
      | 12,ho =>
       obtain rfl:=Option.some.inj (show some _=some o from ho)
       have q3:x 144 = .bool true:=hdep 3 (by kernel_rfl) _ _ rfl rfl
       have q11:x 152 = .bool true:=hdep 11 (by kernel_rfl) _ _ rfl rfl
       clear hdep ho
       dsimp only at hK ⊢
       simp only [q3,q11] at hK ⊢
       refine wpOp_step rfl (fun K2 hK2=>?_)
       go_simp
       exact hK2 _ _ (hK _ _ (Below.refl _ _) rfl)
      | 13,ho =>
       obtain rfl:=Option.some.inj (show some _=some o from ho)
       have q12:x 153 = .bool true:=hdep 12 (by kernel_rfl) _ _ rfl rfl
       clear hdep ho
       dsimp only at hK ⊢
       simp only [q12] at hK ⊢
       refine wpOp_step rfl (fun K2 hK2=>?_)
       go_simp
       exact hK2 _ _ (hK _ _ (Below.refl _ _) rfl)
      | 14,ho =>
       obtain rfl:=Option.some.inj (show some _=some o from ho)
       have q13:x 154 = .bool true:=hdep 13 (by kernel_rfl) _ _ rfl rfl
       clear hdep ho
       dsimp only at hK ⊢
       simp only [q13] at hK ⊢
       refine wpOp_step rfl (fun K2 hK2=>?_)
       go_simp
       exact hK2 _ _ (hK _ _ (Below.refl _ _) rfl)
      | 15,ho =>
       obtain rfl:=Option.some.inj (show some _=some o from ho)
       have q13:x 154 = .bool true:=hdep 13 (by kernel_rfl) _ _ rfl rfl
       have q14:x 155 = .bool false:=hdep 14 (by kernel_rfl) _ _ rfl rfl
       clear hdep ho
       dsimp only at hK ⊢
       simp only [q13,q14] at hK ⊢
       refine wpOp_step rfl (fun K2 hK2=>?_)
       go_simp
       exact hK2 _ _ (hK _ _ (Below.refl _ _) rfl)
      | 16,ho | 20,ho =>
       obtain rfl:=Option.some.inj (show some _=some o from ho)
       have q15:x 156 = .bool false:=hdep 15 (by kernel_rfl) _ _ rfl rfl
       clear hdep ho
       dsimp only at hK ⊢
       simp only [q15] at hK ⊢
       refine wpOp_step rfl (fun K2 hK2=>?_)
       go_simp
       exact hK2 _ _ (hK _ _ (Below.refl _ _) rfl)
      | 17,ho =>
       obtain rfl:=Option.some.inj (show some _=some o from ho)
       have q15:x 156 = .bool false:=hdep 15 (by kernel_rfl) _ _ rfl rfl
       have q16:x 157 = .slice (some ⟨bA,oA,none⟩) M.length ac:=hdep 16 (by kernel_rfl) _ _ rfl rfl
       clear hdep ho
       dsimp only at hK ⊢
       simp only [q15,q16] at hK ⊢
       refine wpOp_step rfl (fun K2 hK2=>?_)
       go_simp
       exact hK2 _ _ (hK _ _ (Below.refl _ _) rfl)
      | 18,ho =>
       obtain rfl:=Option.some.inj (show some _=some o from ho)
       have q15:x 156 = .bool false:=hdep 15 (by kernel_rfl) _ _ rfl rfl
       have q17:x 158 = .pointer (some ⟨bA,oA,none⟩):=hdep 17 (by kernel_rfl) _ _ rfl rfl
       obtain ⟨_,y0,_⟩:=hold2 (W0:=W4) hh hz
       clear hdep ho
       dsimp only at hK ⊢
       simp only [q15,q17] at hK ⊢
       refine wpOp_step rfl (fun K2 hK2=>?_)
       go_simp
       exact hK2 _ _ (hK _ _ (Below.refl _ _) rfl)
      | 19,ho =>
       obtain rfl:=Option.some.inj (show some _=some o from ho)
       have q15:x 156 = .bool false:=hdep 15 (by kernel_rfl) _ _ rfl rfl
       have q18:x 159 = .slice f0 many c0:=hdep 18 (by kernel_rfl) _ _ rfl rfl
       clear hdep ho
       dsimp only at hK ⊢
       simp only [q15,q18] at hK ⊢
       refine wpOp_step rfl (fun K2 hK2=>?_)
       go_simp
       exact hK2 _ _ (hK _ _ (Below.refl _ _) rfl)
      | 21,ho =>
       obtain rfl:=Option.some.inj (show some _=some o from ho)
       have q15:x 156 = .bool false:=hdep 15 (by kernel_rfl) _ _ rfl rfl
       have q20:x 161 = .pointer (some ⟨P,4,none⟩):=hdep 20 (by kernel_rfl) _ _ rfl rfl
       obtain ⟨_,_,y0⟩:=hold2 (W0:=W4) hh hz
       clear hdep ho
       dsimp only at hK ⊢
       simp only [q15,q20] at hK ⊢
       refine wpOp_step rfl (fun K2 hK2=>?_)
       go_simp
       exact hK2 _ _ (hK _ _ (Below.refl _ _) rfl)
      | 22,ho =>
       obtain rfl:=Option.some.inj (show some _=some o from ho)
       have q15:x 156 = .bool false:=hdep 15 (by kernel_rfl) _ _ rfl rfl
       have q21:x 162 = .slice fa F.length fc:=hdep 21 (by kernel_rfl) _ _ rfl rfl
       clear hdep ho
       dsimp only at hK ⊢
       simp only [q15,q21] at hK ⊢
       refine wpOp_step rfl (fun K2 hK2=>?_)
       go_simp
       exact hK2 _ _ (hK _ _ (Below.refl _ _) rfl)
      | 23,ho =>
       obtain rfl:=Option.some.inj (show some _=some o from ho)
       have q15:x 156 = .bool false:=hdep 15 (by kernel_rfl) _ _ rfl rfl
       have q19:x 160 = .int .i64 (many:Int):=hdep 19 (by kernel_rfl) _ _ rfl rfl
       have q22:x 163 = .int .i64 (F.length:Int):=hdep 22 (by kernel_rfl) _ _ rfl rfl
       clear hdep ho
       dsimp only at hK ⊢
       simp only [q15,q19,q22] at hK ⊢
       refine wpOp_step rfl (fun K2 hK2=>?_)
       go_simp
       exact hK2 _ _ (hK _ _ (Below.refl _ _) rfl)
      | 24,ho =>
       obtain rfl:=Option.some.inj (show some _=some o from ho)
       have q13:x 154 = .bool true:=hdep 13 (by kernel_rfl) _ _ rfl rfl
       have q15:x 156 = .bool false:=hdep 15 (by kernel_rfl) _ _ rfl rfl
       have q23:x 164 = .bool true:=hdep 23 (by kernel_rfl) _ _ rfl rfl
       clear hdep ho
       dsimp only at hK ⊢
       simp only [q13,q15,q23] at hK ⊢
       refine wpOp_step rfl (fun K2 hK2=>?_)
       go_simp
       exact hK2 _ _ (hK _ _ (Below.refl _ _) rfl)
      | 25,ho =>
       obtain rfl:=Option.some.inj (show some _=some o from ho)
       have q13:x 154 = .bool true:=hdep 13 (by kernel_rfl) _ _ rfl rfl
       have q24:x 165 = .bool true:=hdep 24 (by kernel_rfl) _ _ rfl rfl
       clear hdep ho
       dsimp only at hK ⊢
       simp only [q13,q24] at hK ⊢
       refine wpOp_step rfl (fun K2 hK2=>?_)
       go_simp
       exact hK2 _ _ (hK _ _ (Below.refl _ _) rfl)
      | 26,ho =>
       obtain rfl:=Option.some.inj (show some _=some o from ho)
       have q25:x 166 = .bool true:=hdep 25 (by kernel_rfl) _ _ rfl rfl
       clear hdep ho
       dsimp only at hK ⊢
       simp only [q25] at hK ⊢
       refine wpOp_step rfl (fun K2 hK2=>?_)
       go_simp
       exact hK2 _ _ (hK _ _ (Below.refl _ _) rfl)
      | 27,ho =>
       obtain rfl:=Option.some.inj (show some _=some o from ho)
       have q26:x 167 = .bool true:=hdep 26 (by kernel_rfl) _ _ rfl rfl
       clear hdep ho
       dsimp only at hK ⊢
       simp only [q26] at hK ⊢
       refine wpOp_step rfl (fun K2 hK2=>?_)
       go_simp
       refine (HSH.out z (below_step HZ4.out (below_step hh.1 hz))).mono ?_
       rintro e z1 ⟨rfl,hb⟩
       exact hK2 _ _ (hK _ _ hb rfl)
      | 28,ho =>
       obtain rfl:=Option.some.inj (show some _=some o from ho)
       have q26:x 167 = .bool true:=hdep 26 (by kernel_rfl) _ _ rfl rfl
       have q27:x 168 = .bool true:=hdep 27 (by kernel_rfl) _ _ rfl rfl
       clear hdep ho
       dsimp only at hK ⊢
       simp only [q26,q27] at hK ⊢
       refine wpOp_step rfl (fun K2 hK2=>?_)
       go_simp
       exact hK2 _ _ (hK _ _ (Below.refl _ _) rfl)
      | 29,ho =>
       obtain rfl:=Option.some.inj (show some _=some o from ho)
       have q28:x 169 = .bool true:=hdep 28 (by kernel_rfl) _ _ rfl rfl
       clear hdep ho
       dsimp only at hK ⊢
       simp only [q28] at hK ⊢
       refine wpOp_step rfl (fun K2 hK2=>?_)
       go_simp
       exact hK2 _ _ (hK _ _ (Below.refl _ _) rfl)
      | n + 30,ho=>exact absurd (Array.getElem?_eq_some_iff.1 ho).1 (by simp)
     case done =>
      intro x z hz hres
      have q29:x 2 = .bool true:=hres 29 _ _ rfl rfl
      have HZ9:=Lib.hid (below_step HB0.out (below_step HZ4.out (below_step hh.1 hz)))
      clear hres hz
      dsimp only
      simp only [q29]
      go_wp2
      go_ret
      exact ⟨rfl,HZ9.out⟩
end Go.Proofs.YteflhbfgpknabaaGreatDoor
