/-
  A part of the proof: L22, OpenS, Open, OpenA.
-/
import Derived.Test.YthhfmppealmblaaGreatDoorS03
import Derived.Test.YthhfmppealmblaaGreatDoorQ34
import Derived.Test.YthhfmppealmblaaGreatDoorQ21
import Derived.Test.YthhfmppealmblaaGreatDoorQ02
import Derived.Deep.Slices
import Derived.Deep.Fields
import Derived.ChangeSame
import Derived.ChangeArms
import Derived.OpenShut
import Derived.Lib.SmallJoins
import Derived.Test.YthhfmppealmblaaGreatDoorCards
import Derived.Test.YthhfmppealmblaaGreatDoorTie
import Derived.Test.YthhfmppealmblaaGreatDoorQ01
import Derived.WalkKit
import Derived.ProofKit
import Derived.Deep.DeepHandedRow
import Derived.Deep.DeepWitnessRowRef
import Derived.Lib.LaidTab
import Derived.LaidMore
import Derived.ShutString
import Derived.Stop.LaidErr
import Derived.MakeChecks
namespace Go.Proofs.YthhfmppealmblaaGreatDoor
open Go.RowKit
theorem clP_zero {S:Sp} {B:(Th→Int)→Pp→Bool} {l:List Ev} {cls:List Cl} {m:List Fa} (h:ClP S B l cls m 0):clsE S l cls=0:=by
  rcases h with ⟨h0,_,h1⟩ | ⟨hE,_⟩
  · exact absurd h1.symm h0
  · exact hE
theorem clsE_aud {S:Sp} {l:List Ev} {cls:List Cl} (h:clsE S l cls=0):audE S l=0:=by
  unfold clsE at h
  split at h
  · assumption
  · exact absurd h (by assumption)
theorem any_take {α:Type} {l:List α} {q:α→Bool} {j:Nat} (h:j < l.length):(l.take (j + 1)).any q=((l.take j).any q || q l[j]):=by
  rw [List.take_succ_eq_append_getElem h,List.any_append,List.any_cons,List.any_nil,Bool.or_false]
theorem row_one (w:World) (x:Int):(w.alloc (.cells #[.int .i64 x] 2)).ownsRow w.heap.size 2 1 (.slice (some ⟨w.heap.size,0,none⟩) 1 1) [x].length (iCs [x]) :=
  ⟨rfl,.inr ⟨w.heap.size,1,#[.int .i64 x],rfl,Nat.le_refl _,World.alloc_heap_new w _,Nat.le_refl _,(by unfold maxLen; omega),rfl,rfl⟩⟩
theorem ARd.ppForm {w:World} {v:Value} {l:List Pp} (h:ARd w v 2 (l.map ppC)):∃ a c,v = .slice a l.length c:=by
  obtain ⟨a,c,e⟩:=h.form
  exact ⟨a,c,by simpa using e⟩
theorem mem_sndL {S:Sp} {B:(Th→Int)→Pp→Bool} {f:Th→Int} {p:Pp} (hp:p∈allFrom 0 S.rs):decide (p∈sndL S B f)=B f p:=by
  unfold sndL
  rw [Bool.eq_iff_iff,decide_eq_true_iff,List.mem_filter]
  exact ⟨fun h=>h.2,fun h=>⟨hp,h⟩⟩
set_option maxRecDepth 100000 in
set_option maxHeartbeats 12800000 in
theorem auditTicks_walk (v1 v2 v3 v4:Value) (S:Sp) (l:List Ev) (vl:Value) (cls:List Cl) (vc:Value) (w:World) (t:Tabs w) (f:Nat→Value) (hsp:SpRd w v1 v2 v3 v4 f S) (hlv:ARd w vl 5 (l.map evC)) (hcv:ARd w vc 4 (cls.map clC)) :
    Calls Tryz.prog 4 #[.agg #[v1,v2,v3,v4],vl,vc] w (BoR true w):=by
  obtain ⟨B,hB⟩:=sndIs_ex S
  obtain ⟨al,cl,evl⟩:=hlv.evForm
  subst evl
  obtain ⟨ac,cc,evc⟩:=hcv.clForm
  subst evc
  have hal:=(Below.refl _ w).alloc (Nat.le_refl w.heap.size) (.cells #[v1,v2,v3,v4] 27)
  have hk:=Blk.new w 27 #[v1,v2,v3,v4]
  have HGR:=Lib.hid (great_any v1 v2 v3 v4 S f l (.slice al l.length cl) _ (hsp.later hal) (hlv.later hal))
  have HAW:=Lib.hid (fun (W:World) (hb:Below w.heap.size w W)=>awake_any W (t.below hb))
  have HT:=Lib.hid t
  have HAL:=Lib.hid hal
  have HK:=Lib.hid hk
  have HSP:=Lib.hid hsp
  have HLV:=Lib.hid hlv
  have HCV:=Lib.hid hcv
  have HSB:=Lib.hid hB
  obtain ⟨s0,s1,s2,s3⟩:=hk.four
  clear t hal hk hsp hlv hcv hB
  go_enter Tryz.func4,Tryz.ntmps4
  go_wp2_with fail
  refine (HGR.out).mono ?_
  rintro e W ⟨b,rfl,hb0,hb⟩
  have HB1:=Lib.hid (below_step HAL.out hb)
  have HK1:=Lib.hid (HK.out.below hb)
  clear hb HGR HAL HK s0 s1 s2 s3
  cases b with
  | true =>
    clear hb0
    go_wp2_with fail
    refine (HAW.out _ HB1.out).mono ?_
    rintro e W9 ⟨rfl,hb9⟩
    have HB9:=Lib.hid (below_step HB1.out hb9)
    clear hb9
    go_wp2
    go_ret
    exact ⟨rfl,HB9.out⟩
  | false =>
  have HSM:=Lib.hid (hb0 rfl)
  clear hb0
  by_cases g1:20 < l.length
  · have d1:decide ((20:Int) < (l.length:Int))=true:=decide_eq_true (by omega)
    go_wp2_with fail
    refine (HAW.out _ HB1.out).mono ?_
    rintro e W9 ⟨rfl,hb9⟩
    have HB9:=Lib.hid (below_step HB1.out hb9)
    clear hb9
    go_wp2
    go_ret
    exact ⟨rfl,HB9.out⟩
  have d1:decide ((20:Int) < (l.length:Int))=false:=decide_eq_false (by omega)
  by_cases g2:12 < cls.length
  · have d2:decide ((12:Int) < (cls.length:Int))=true:=decide_eq_true (by omega)
    go_wp2_with fail
    refine (HAW.out _ HB1.out).mono ?_
    rintro e W9 ⟨rfl,hb9⟩
    have HB9:=Lib.hid (below_step HB1.out hb9)
    clear hb9
    go_wp2
    go_ret
    exact ⟨rfl,HB9.out⟩
  have d2:decide ((12:Int) < (cls.length:Int))=false:=decide_eq_false (by omega)
  have HAC:=Lib.hid (aclaims_any v1 v2 v3 v4 S HSM.out.ok f l (.slice al l.length cl) cls (.slice ac cls.length cc) B HSB.out W (HT.out.below HB1.out) (HSP.out.later HB1.out) (HLV.out.later HB1.out) (HCV.out.later HB1.out) (by omega) (by omega))
  obtain ⟨u0,u1,u2,u3⟩:=HK1.out.four
  go_wp2_with fail
  refine (HAC.out).mono ?_
  rintro e W2 ⟨va,m,c,rfl,hra,hca,hb2⟩
  have HB2:=Lib.hid (below_step HB1.out hb2)
  have HK2:=Lib.hid (HK1.out.below hb2)
  have HFA:=Lib.hid (ARd.of_fas hra)
  have HCA:=Lib.hid hca
  clear hra hca hb2 HAC u0 u1 u2 u3 HK1 HB1
  by_cases hz:c=0
  case neg =>
    have q1:(c == 0)=false:=by simpa using hz
    clear hz
    go_wp2_with fail
    refine (HAW.out _ HB2.out).mono ?_
    rintro e W9 ⟨rfl,hb9⟩
    have HB9:=Lib.hid (below_step HB2.out hb9)
    clear hb9
    go_wp2
    go_ret
    exact ⟨rfl,HB9.out⟩
  subst hz
  have HCE:=Lib.hid (clP_zero HCA.out)
  have HAE:=Lib.hid (clsE_aud HCE.out)
  have hmc:m.length≤5000:=cl_few HSB.out HSM.out HCA.out (by omega) (by omega)
  have HRC:=Lib.hid (rcheck34_any v1 v2 v3 v4 S HSM.out.ok f l (.slice al l.length cl) W2 (HSP.out.later HB2.out) (by omega) (HLV.out.later HB2.out))
  rw [HAE.out] at HRC
  have d3:decide ((5000:Int) < (m.length:Int))=false:=decide_eq_false (by omega)
  obtain ⟨aa,ca,eva⟩:=HFA.out.faForm
  subst eva
  obtain ⟨u0,u1,u2,u3⟩:=HK2.out.four
  go_wp2_with fail
  refine (HRC.out).mono ?_
  rintro e W3 ⟨rfl,hb3⟩
  have HB3:=Lib.hid (below_step HB2.out hb3)
  have HK3:=Lib.hid (HK2.out.below hb3)
  have HF3:=Lib.hid (HFA.out.later hb3)
  clear hb3 HRC u0 u1 u2 u3 HK2 HB2 HFA
  have HR0:=Lib.hid (row_one W3 0)
  have HL0:=Lib.hid (show Below W3.heap.size W3 (W3.alloc (.cells #[.int .i64 0] 2)) from (Below.refl _ _).alloc (Nat.le_refl _) _)
  go_wp2
  go_loopw [9,10] (fun v x wr=>∃ (i:Nat) (ts:List Int),i≤l.length∧x = .int .i64 i∧ts.length≤1 + 3 * i∧RowKit.Hid (wr.ownsRow W3.heap.size 2 1 v ts.length (iCs ts))∧RowKit.Hid (Below W3.heap.size W3 wr)) (fun _ x _=>l.length - (intOf x).toNat)
  case atStart=>exact ⟨0,[0],Nat.zero_le _,rfl,by simp,HR0,HL0⟩
  clear HR0 HL0
  obtain ⟨i,ts,hi,rfl,hts,hrow,hB⟩:=hrel
  by_cases hil:i < l.length
  · as_aux_lemma =>
    have hi2:(i:Int) < (l.length:Int):=by omega
    obtain ⟨b,o,c',ev,hbl,k0,_,_,_,_⟩:=(HLV.out.later (below_step HB3.out hB.out)).evAt i hil
    cases ev
    have hnn:=(audE_ok HAE.out).nonneg (List.getElem_mem hil)
    obtain ⟨tk,htk⟩:∃ z,l[i].1=z:=⟨_,rfl⟩
    rw [htk] at k0 hnn
    clear htk
    go_wp2_with fail
    refine (near_any W3.heap.size _ ts tk wr hrow.out hB.out.size hnn (by omega)).mono ?_
    rintro e w2 ⟨v2,ys,rfl,hr2,hl2,hb2⟩
    have HR2:=Lib.hid hr2
    have HB4:=Lib.hid (hB.out.trans hb2)
    clear hr2 hb2 k0 hrow hB
    go_wp2
    go_roundw
    case rel=>exact ⟨i + 1,ys,by omega,by go_num,by omega,HR2,HB4⟩
    case measure=>simp [intOf]; omega
  have hi2:¬ (i:Int) < (l.length:Int):=by omega
  have hts2:ts.length≤61:=by omega
  have HR1:=Lib.hid hrow.out
  have HBB:=Lib.hid hB.out
  clear hrow hB hts hi hil
  go_wp2
  have hRO:=audE_ok HAE.out
  have hsg:=spGood hRO.sp
  have HVA:=Lib.hid (fun (c:Cl) (W:World) (hb:Below w.heap.size w W)=>valid34_any v1 v2 v3 v4 S f c W (HSP.out.later hb) hsg.rs hsg.r)
  have HCL0:=Lib.hid (fun c hc=>(clsE_ok HCE.out).2.2 c hc)
  have HK4:=Lib.hid (HK3.out.below HBB.out)
  have HBW0:=Lib.hid (below_step HB3.out HBB.out)
  go_loopw [9,11] (fun v x wr=>∃ (i:Nat) (ys:List Int),i≤cls.length∧x = .int .i64 i∧ys.length≤61 + 6 * i∧RowKit.Hid (wr.ownsRow W3.heap.size 2 1 v ys.length (iCs ys))∧RowKit.Hid (Below W3.heap.size W3 wr)) (fun _ x _=>cls.length - (intOf x).toNat)
  case atStart=>exact ⟨0,ts,Nat.zero_le _,rfl,by omega,HR1,HBB⟩
  clear HR1 hi2 hts2
  obtain ⟨i,ys,hi,rfl,hts,hrow,hB⟩:=hrel
  by_cases hil:i < cls.length
  · as_aux_lemma =>
    have hi2:(i:Int) < (cls.length:Int):=by omega
    have HBW:=Lib.hid (below_step HB3.out hB.out)
    obtain ⟨b,o,c',ev,hbl,k0,k1,k2,k3⟩:=(HCV.out.later HBW.out).clAt i hil
    cases ev
    have hce:=HCL0.out _ (List.getElem_mem hil)
    have hto:=clE_to hce
    have HVC:=Lib.hid (HVA.out cls[i])
    rw [hce] at HVC
    obtain ⟨c,hcn⟩:∃ c,cls[i]=c:=⟨_,rfl⟩
    rw [hcn] at k0 k1 k2 k3 hto HVC
    obtain ⟨p,fr,tt⟩:=c
    simp only at k0 k1 k2 k3 hto
    have HCN:=Lib.hid hcn
    clear hcn hce
    obtain ⟨s0,s1,s2,s3⟩:=(HK3.out.below hB.out).four
    have hdr:=hold8 (W0:=wr) ⟨Below.refl _ wr,s0,s1,s2,s3,k0,k1,k2,k3⟩ ((Below.refl _ wr).drew)
    clear s0 s1 s2 s3 k0 k1
    have hfr:0≤fr∧fr≤100000000:=⟨hto.2.1,hto.2.2.1⟩
    have htt:0≤tt→tt≤100000000:=fun h=>by omega
    clear hto
    go_upto_region 16 with fail
    go_region_held3 (fun w'=>Below wr.heap.size wr w'∧w'.cell? ⟨w.heap.size,0,none⟩=some v1∧w'.cell? ⟨w.heap.size,1,none⟩=some v2∧w'.cell? ⟨w.heap.size,2,none⟩=some v3∧w'.cell? ⟨w.heap.size,3,none⟩=some v4∧w'.cell? ⟨b,o + i * 4,none⟩=some (.int .i64 p.1)∧w'.cell? ⟨b,o + i * 4 + 1,none⟩=some (.int .i64 p.2)∧w'.cell? ⟨b,o + i * 4 + 2,none⟩=some (.int .i64 fr)∧w'.cell? ⟨b,o + i * 4 + 3,none⟩=some (.int .i64 tt)) (first | exact hdr | assumption) (first | (go_at_call 19; (with_reducible refine (HVC.out _ (below_step HBW.out hdr.1)).mono ?_); rintro e w2 ⟨rfl,hb2⟩; have hn:=hold8 hdr hb2; clear hb2))
    have HRN:=Lib.hid (below_step hB.out hn.1)
    have HRW:=Lib.hid (row_later hrow.out hn.1)
    have m2:=hn.2.2.2.2.2.2.2.1
    have m3:=hn.2.2.2.2.2.2.2.2
    clear hdr hn HVC k2 k3 hrow hB
    go_wp2_with fail
    refine (near_any W3.heap.size _ ys fr w2 HRW.out HRN.out.size hfr (by omega)).mono ?_
    rintro e w3 ⟨v3',zs,rfl,hr3,hl3,hb3⟩
    have HR3:=Lib.hid hr3
    have HB4:=Lib.hid (HRN.out.trans hb3)
    have n3:w3.cell? ⟨b,o + i * 4 + 3,none⟩=some (.int .i64 tt):=by
      obtain ⟨b',o',c'',e,_,_,_,_,q3⟩:=(HCV.out.later (below_step HB3.out (HRN.out.trans hb3))).clAt i hil
      cases e
      rw [HCN.out] at q3
      exact q3
    clear hr3 hb3 m2 m3 HRW HRN
    by_cases ht0:0≤tt
    · have q2:decide ((0:Int)≤tt)=true:=decide_eq_true ht0
      go_wp2_with fail
      refine (near_any W3.heap.size _ zs tt w3 HR3.out HB4.out.size ⟨ht0,htt ht0⟩ (by omega)).mono ?_
      rintro e w4 ⟨v4',us,rfl,hr4,hl4,hb4⟩
      have HR4:=Lib.hid hr4
      have HB5:=Lib.hid (HB4.out.trans hb4)
      clear hr4 hb4 HR3 n3 HB4
      go_wp2
      go_roundw
      case rel=>exact ⟨i + 1,us,by omega,by go_num,by omega,HR4,HB5⟩
      case measure=>simp [intOf]; omega
    · have q2:decide ((0:Int)≤tt)=false:=decide_eq_false ht0
      go_wp2
      go_roundw
      case rel=>exact ⟨i + 1,zs,by omega,by go_num,by omega,HR3,HB4⟩
      case measure=>simp [intOf]; omega
  have hi2:¬ (i:Int) < (cls.length:Int):=by omega
  have hyl:ys.length≤200:=by omega
  have HBW:=Lib.hid (below_step HB3.out hB.out)
  have HYS:=Lib.hid (ARd.of_ints hrow.out)
  obtain ⟨ay,cy,evy⟩:=row_formS hrow.out
  subst evy
  have HAL:=Lib.hid (rall_any v1 v2 v3 v4 S wr f (HSP.out.later HBW.out) hsg.rs hsg.r)
  have hall:=allFrom_len hsg.r 0
  have hall2:(allFrom 0 S.rs).length≤4000:=by have:=hsg.rs; omega
  have hrE:=(audE_parts HAE.out).2
  have HSO:=Lib.hid (fun (tk:Int) (W:World) (hb:Below w.heap.size w W)=>sounding34_any v1 v2 v3 v4 S HSM.out.ok f l hrE (.slice al l.length cl) tk B HSB.out W (HSP.out.later hb) (HLV.out.later hb))
  have HKW:=Lib.hid (HK3.out.below hB.out)
  have HFW:=Lib.hid (HF3.out.later (show Below W3.heap.size W3 wr from hB.out))
  obtain ⟨u0,u1,u2,u3⟩:=HKW.out.four
  clear hrow hB hi hil hts HVA HCL0 HBW0 HBB hall hsg hRO hrE
  go_wp2_with fail
  refine (HAL.out).mono ?_
  rintro e W4 ⟨vp,rfl,hro,hb4⟩
  have HPP:=Lib.hid (ARd.of_pps hro)
  obtain ⟨ap,cp,evp⟩:=HPP.out.ppForm
  subst evp
  have HB5:=Lib.hid (below_step HBW.out hb4)
  have HK5:=Lib.hid (HKW.out.below hb4)
  have HF5:=Lib.hid (HFW.out.later hb4)
  have HY5:=Lib.hid (HYS.out.later hb4)
  have HFK:=Lib.hid (fa_kind HCA.out)
  have HCV2:=Lib.hid (fun (p:Pp) (hp:p∈allFrom 0 S.rs) (t:Int)=>cov_is HSB.out HCA.out hp t)
  have HL0:=Lib.hid (Below.refl W4.heap.size W4)
  clear hro hb4 HAL u0 u1 u2 u3 HBW HKW HFW HYS HK3 HK4 HF3
  go_wp2
  go_loopw [13] (fun x wr=>∃ (i:Nat),i≤ys.length∧x = .int .i64 i∧RowKit.Hid (Below W4.heap.size W4 wr)) (fun x _=>ys.length - (intOf x).toNat)
  case atStart=>exact ⟨0,Nat.zero_le _,rfl,HL0⟩
  clear HL0
  obtain ⟨i,hi,rfl,hB⟩:=hrel
  by_cases hil:i < ys.length
  · have hi2:(i:Int) < (ys.length:Int):=by omega
    obtain ⟨b,o,c',ev,hbl,k0⟩:=(HY5.out.later hB.out).intAt i hil
    cases ev
    obtain ⟨tk,htk⟩:∃ z,ys[i]=z:=⟨_,rfl⟩
    rw [htk] at k0
    have HS1:=Lib.hid (HSO.out tk wr (below_step HB5.out hB.out))
    obtain ⟨u0,u1,u2,u3⟩:=(HK5.out.below hB.out).four
    clear htk
    go_wp2_with fail
    refine (HS1.out).mono ?_
    rintro e W5 ⟨vn,rfl,hro,hb5⟩
    have HN:=Lib.hid (ARd.of_pps hro)
    have hnl:=sndL_len (audE_ok HAE.out).sp B (upF l tk)
    have HBX:=Lib.hid (below_step hB.out hb5)
    have HL1:=Lib.hid (Below.refl W5.heap.size W5)
    clear hro hb5 HS1 u0 u1 u2 u3 hB k0
    go_wp2
    go_loopw [16] (fun x wr=>∃ (k:Nat),k≤(allFrom 0 S.rs).length∧x = .int .i64 k∧RowKit.Hid (Below W5.heap.size W5 wr)) (fun x _=>(allFrom 0 S.rs).length - (intOf x).toNat)
    case atStart=>exact ⟨0,Nat.zero_le _,rfl,HL1⟩
    clear HL1
    obtain ⟨k,hk,rfl,hB⟩:=hrel
    by_cases hkl:k < (allFrom 0 S.rs).length
    · have hk2:(k:Int) < ((allFrom 0 S.rs).length:Int):=by omega
      have HPM:=Lib.hid (List.getElem_mem hkl)
      obtain ⟨p,hpk⟩:∃ p,(allFrom 0 S.rs)[k]=p:=⟨_,rfl⟩
      rw [hpk] at HPM
      have HPK:=Lib.hid hpk
      clear hpk
      rename World=>W6
      have HL2:=Lib.hid (Below.refl W6.heap.size W6)
      go_wp2
      go_loopw [17,19] (fun v x wr=>∃ (j:Nat) (b:Bool),j≤cls.length∧x = .int .i64 j∧v = .bool b∧RowKit.Hid (b=(cls.take j).any fun c=>clB c p tk)∧RowKit.Hid (Below W6.heap.size W6 wr)) (fun _ x _=>cls.length - (intOf x).toNat)
      case atStart=>exact ⟨0,false,Nat.zero_le _,rfl,rfl,Lib.hid rfl,HL2⟩
      obtain ⟨j,sd,hj,rfl,rfl,hsd,hC⟩:=hrel
      by_cases hjl:j < cls.length
      · as_aux_lemma =>
        have hj2:(j:Int) < (cls.length:Int):=by omega
        have HAT:=Lib.hid (any_take (q:=fun c=>clB c p tk) hjl)
        have HBC:=Lib.hid (below_step (below_step HBX.out hB.out) hC.out)
        obtain ⟨b,o,c',ev,hbl,k0,k1,k2,k3⟩:=(HCV.out.later (below_step HB5.out HBC.out)).clAt j hjl
        cases ev
        obtain ⟨b2,o2,c2',ev2,hbl2,r0,r1⟩:=(HPP.out.later HBC.out).ppAt k hkl
        cases ev2
        rw [HPK.out] at r0 r1
        obtain ⟨c,hcn⟩:∃ c,cls[j]=c:=⟨_,rfl⟩
        rw [hcn] at k0 k1 k2 k3 HAT
        obtain ⟨q,fr,tt⟩:=c
        simp only at k0 k1 k2 k3
        clear hcn
        cases sd with
        | true =>
          have HE:=Lib.hid (show true=(cls.take (j + 1)).any fun c=>clB c p tk by rw [HAT.out,← hsd.out,Bool.true_or])
          clear HAT hsd k0 k1 k2 k3 r0 r1
          go_wp2
          go_quiet (fail)
          go_wp2
          go_roundw
          case rel=>exact ⟨j + 1,true,by omega,by go_num,rfl,HE,Lib.hid (below_drewN hC.out _)⟩
          case measure=>simp [intOf]; omega
        | false =>
          have HE:=Lib.hid (show clB (q,fr,tt) p tk=(cls.take (j + 1)).any fun c=>clB c p tk by rw [HAT.out,← hsd.out,Bool.false_or])
          clear HAT hsd
          by_cases e1:q=p
          · have hq:=eqPp (decide_eq_true e1)
            by_cases e2:fr≤tk
            · as_aux_lemma =>
              have d2:decide (fr≤tk)=true:=decide_eq_true e2
              by_cases e3:tt < 0
              · have d3:decide (tt < 0)=true:=decide_eq_true e3
                have HV:=Lib.hid (HE.out.symm.trans (by unfold clB; simp only; rw [decide_eq_true e1,d2,d3]; rfl:clB (q,fr,tt) p tk=true)).symm
                clear HE e1 e2 e3
                go_wp2
                go_quiet (fail)
                go_wp2
                go_roundw
                case rel=>exact ⟨j + 1,true,by omega,by go_num,rfl,HV,Lib.hid (below_drewN hC.out _)⟩
                case measure=>simp [intOf]; omega
              · have d3:decide (tt < 0)=false:=decide_eq_false e3
                by_cases e4:tk < tt
                · have d4:decide (tk < tt)=true:=decide_eq_true e4
                  have HV:=Lib.hid (HE.out.symm.trans (by unfold clB; simp only; rw [decide_eq_true e1,d2,d3,d4]; rfl:clB (q,fr,tt) p tk=true)).symm
                  clear HE e1 e2 e3 e4
                  go_wp2
                  go_quiet (fail)
                  go_wp2
                  go_roundw
                  case rel=>exact ⟨j + 1,true,by omega,by go_num,rfl,HV,Lib.hid (below_drewN hC.out _)⟩
                  case measure=>simp [intOf]; omega
                · have d4:decide (tk < tt)=false:=decide_eq_false e4
                  have HV:=Lib.hid (HE.out.symm.trans (by unfold clB; simp only; rw [decide_eq_true e1,d2,d3,d4]; rfl:clB (q,fr,tt) p tk=false)).symm
                  clear HE e1 e2 e3 e4
                  go_wp2
                  go_quiet (fail)
                  go_wp2
                  go_roundw
                  case rel=>exact ⟨j + 1,false,by omega,by go_num,rfl,HV,Lib.hid (below_drewN hC.out _)⟩
                  case measure=>simp [intOf]; omega
            · as_aux_lemma =>
              have d2:decide (fr≤tk)=false:=decide_eq_false e2
              have HV:=Lib.hid (HE.out.symm.trans (by unfold clB; simp only; rw [decide_eq_true e1,d2]; rfl:clB (q,fr,tt) p tk=false)).symm
              clear HE e1 e2
              go_wp2
              go_quiet (fail)
              go_wp2
              go_roundw
              case rel=>exact ⟨j + 1,false,by omega,by go_num,rfl,HV,Lib.hid (below_drewN hC.out _)⟩
              case measure=>simp [intOf]; omega
          · as_aux_lemma =>
            have hq:=eqPp (decide_eq_false e1)
            have HV:=Lib.hid (HE.out.symm.trans (by unfold clB; simp only; rw [decide_eq_false e1]; rfl:clB (q,fr,tt) p tk=false)).symm
            clear HE e1
            go_wp2
            go_quiet (fail)
            go_wp2
            go_roundw
            case rel=>exact ⟨j + 1,false,by omega,by go_num,rfl,HV,Lib.hid (below_drewN hC.out _)⟩
            case measure=>simp [intOf]; omega
      have hj2:¬ (j:Int) < (cls.length:Int):=by omega
      have hje:j=cls.length:=by omega
      rw [hje,List.take_length] at hsd
      clear hje hj hjl
      rename World=>W7
      have HB7:=Lib.hid (below_step hB.out hC.out)
      have HL3:=Lib.hid (Below.refl W7.heap.size W7)
      clear hC hB
      go_wp2
      go_loopw [18,20] (fun v x wr=>∃ (j:Nat),j≤m.length∧x = .int .i64 j∧v = .int .i64 (covF p tk (m.take j))∧RowKit.Hid (Below W7.heap.size W7 wr)) (fun _ x _=>m.length - (intOf x).toNat)
      case atStart=>exact ⟨0,Nat.zero_le _,rfl,rfl,HL3⟩
      obtain ⟨j,hj,rfl,rfl,hC⟩:=hrel
      by_cases hjl:j < m.length
      · as_aux_lemma =>
        have hj2:(j:Int) < (m.length:Int):=by omega
        have HCT:=Lib.hid (covF_take (p:=p) (t:=tk) hjl)
        have hzb:=covF_small (p:=p) (t:=tk) (m:=m.take j) (fun g hg=>HFK.out g (List.mem_of_mem_take hg))
        have hkb:=HFK.out _ (List.getElem_mem hjl)
        rw [List.length_take] at hzb
        obtain ⟨z,hz⟩:∃ z,covF p tk (m.take j)=z:=⟨_,rfl⟩
        rw [hz] at hzb HCT ⊢
        have HBC:=Lib.hid (below_step HB7.out hC.out)
        obtain ⟨b,o,c',ev,hbl,k0,k1,k2,k3,k4⟩:=(HF5.out.later (below_step HBX.out HBC.out)).faAt j hjl
        cases ev
        obtain ⟨b2,o2,c2',ev2,hbl2,r0,r1⟩:=(HPP.out.later (below_step HBX.out HBC.out)).ppAt k hkl
        cases ev2
        rw [HPK.out] at r0 r1
        obtain ⟨g,hgn⟩:∃ g,m[j]=g:=⟨_,rfl⟩
        rw [hgn] at k0 k1 k2 k3 k4 HCT hkb
        obtain ⟨kd,q,fr,tt⟩:=g
        simp only at k0 k1 k2 k3 k4 hkb
        have hz5:0≤z∧z≤10000:=by omega
        clear hgn hz hzb
        by_cases e1:q=p
        · have hq:=eqPp (decide_eq_true e1)
          by_cases e2:fr≤tk
          · as_aux_lemma =>
            have d2:decide (fr≤tk)=true:=decide_eq_true e2
            by_cases e3:tt < 0
            · have d3:decide (tt < 0)=true:=decide_eq_true e3
              have HV:=Lib.hid (show covF p tk (m.take (j + 1))=z + kd by rw [HCT.out]; unfold cov1; rw [if_pos ⟨e1,e2,.inl e3⟩])
              clear HCT e1 e2 e3
              go_wp2
              go_quiet (fail)
              go_wp2
              go_roundw
              case rel=>exact ⟨j + 1,by omega,by go_num,by rw [HV.out],Lib.hid (below_drewN hC.out _)⟩
              case measure=>simp [intOf]; omega
            · have d3:decide (tt < 0)=false:=decide_eq_false e3
              by_cases e4:tk < tt
              · have d4:decide (tk < tt)=true:=decide_eq_true e4
                have HV:=Lib.hid (show covF p tk (m.take (j + 1))=z + kd by rw [HCT.out]; unfold cov1; rw [if_pos ⟨e1,e2,.inr e4⟩])
                clear HCT e1 e2 e3 e4
                go_wp2
                go_quiet (fail)
                go_wp2
                go_roundw
                case rel=>exact ⟨j + 1,by omega,by go_num,by rw [HV.out],Lib.hid (below_drewN hC.out _)⟩
                case measure=>simp [intOf]; omega
              · have d4:decide (tk < tt)=false:=decide_eq_false e4
                have HV:=Lib.hid (show covF p tk (m.take (j + 1))=z by rw [HCT.out]; unfold cov1; rw [if_neg (fun h=>by have:=h.2.2; simp only at this; omega)]; omega)
                clear HCT e1 e2 e3 e4
                go_wp2
                go_quiet (fail)
                go_wp2
                go_roundw
                case rel=>exact ⟨j + 1,by omega,by go_num,by rw [HV.out],Lib.hid (below_drewN hC.out _)⟩
                case measure=>simp [intOf]; omega
          · as_aux_lemma =>
            have d2:decide (fr≤tk)=false:=decide_eq_false e2
            have HV:=Lib.hid (show covF p tk (m.take (j + 1))=z by rw [HCT.out]; unfold cov1; rw [if_neg (fun h=>e2 h.2.1)]; omega)
            clear HCT e1 e2
            go_wp2
            go_quiet (fail)
            go_wp2
            go_roundw
            case rel=>exact ⟨j + 1,by omega,by go_num,by rw [HV.out],Lib.hid (below_drewN hC.out _)⟩
            case measure=>simp [intOf]; omega
        · as_aux_lemma =>
          have hq:=eqPp (decide_eq_false e1)
          have HV:=Lib.hid (show covF p tk (m.take (j + 1))=z by rw [HCT.out]; unfold cov1; rw [if_neg (fun h=>e1 h.1)]; omega)
          clear HCT e1
          go_wp2
          go_quiet (fail)
          go_wp2
          go_roundw
          case rel=>exact ⟨j + 1,by omega,by go_num,by rw [HV.out],Lib.hid (below_drewN hC.out _)⟩
          case measure=>simp [intOf]; omega
      have hj2:¬ (j:Int) < (m.length:Int):=by omega
      have hje:j=m.length:=by omega
      rename World=>W8
      obtain ⟨sb,hsb⟩:∃ sb,B (upF l tk) p=sb:=⟨_,rfl⟩
      have hzz:covF p tk (m.take j)=kdRef sb sd:=by rw [hje,List.take_length,HCV2.out p HPM.out tk,← hsb,hsd.out]; rfl
      rw [hzz]
      have HB8:=Lib.hid (below_step HB7.out hC.out)
      have HIN:=Lib.hid (in34_any (sndL S B (upF l tk)) vn p W8 (HN.out.later HB8.out) (by omega))
      rw [mem_sndL HPM.out,hsb] at HIN
      obtain ⟨b2,o2,c2',ev2,hbl2,r0,r1⟩:=(HPP.out.later (below_step HBX.out HB8.out)).ppAt k hkl
      cases ev2
      rw [HPK.out] at r0 r1
      clear hzz hje hj hjl hsd hC hsb
      go_wp2_with fail
      refine (HIN.out).mono ?_
      rintro e W9 ⟨rfl,hb9⟩
      have HB9:=Lib.hid (below_step HB8.out hb9)
      clear hb9 HIN r0 r1
      cases sb <;> cases sd
      all_goals
        (simp only [kdRef,Bool.and_true,Bool.and_false,Bool.not_true,Bool.not_false,if_true,if_false,Bool.false_eq_true]
         go_wp2
         go_roundw
         case rel=>exact ⟨k + 1,by omega,by go_num,HB9⟩
         case measure=>simp [intOf]; omega)
    have hk2:¬ (k:Int) < ((allFrom 0 S.rs).length:Int):=by omega
    have HBZ:=Lib.hid (below_step HBX.out hB.out)
    clear hB
    go_wp2
    go_roundw
    case rel=>exact ⟨i + 1,by omega,by go_num,HBZ⟩
    case measure=>simp [intOf]; omega
  have hi2:¬ (i:Int) < (ys.length:Int):=by omega
  have HB9:=Lib.hid (below_step HB5.out hB.out)
  clear hB
  go_wp2_with fail
  refine (HAW.out _ HB9.out).mono ?_
  rintro e W9 ⟨rfl,hb9⟩
  have HBF:=Lib.hid (below_step HB9.out hb9)
  clear hb9
  go_wp2
  go_ret
  exact ⟨rfl,HBF.out⟩
end Go.Proofs.YthhfmppealmblaaGreatDoor
namespace Go.Proofs.YthhfmppealmblaaGreatDoor
open Go.ChangeShapes Go.WideShapes Go.RowKit Go.Deep
theorem spot_none {w:World} {a:Addr} {v:Value} (h:w.cell? a=some v):a=⟨a.block,a.off,none⟩:=by
 obtain ⟨b,o,s⟩:=a
 cases s with
 | none=>rfl
 | some x =>
  unfold World.cell? at h
  split at h
  ·simp at h
  ·cases h
theorem add_at (b o n:Nat):(⟨b,o,none⟩:Addr).add n=⟨b,o + n,none⟩:=by
 unfold Addr.add
 split
 ·next h=>subst h; rfl
 ·rfl
theorem wf_i64 {a:Int} (h:(Lit.int .i64 a).wf=true):i64 a:=by
 have h2:IntKind.i64.min≤a∧a≤IntKind.i64.max:=by simpa only [Lit.wf,Bool.and_eq_true,decide_eq_true_eq] using h
 have e1:IntKind.i64.min = -9223372036854775808:=rfl
 have e2:IntKind.i64.max=9223372036854775807:=rfl
 unfold i64
 omega
section
variable {H : Type} {enc : TypeId × Value → H} {P : Program} {w : World} {base : Nat} {spare : Nat → Bool} {held : Bool}
theorem fld {t:TypeId} {fs:Array Field} {n:Nat} {cs:List Value} {y:DataW H × List MemPlace} (ht:P.underlying t=some (.struct fs)) (h:DataW.trod enc P w base spare held n t cs=some y) (i:Nat) (f:Field) (hf:fs[i]?=some f) :
  ∃ (m:Nat) (z:DataW H × List MemPlace),DataW.trod enc P w base spare held m f.type ((cs.drop f.offset).take (P.cellsOf f.type))=some z:=by
 obtain ⟨xs,m,_,_,_,hl,hx⟩:=DataW.trod_struct ht h
 have hi:=(Array.getElem?_eq_some_iff.1 hf).1
 exact ⟨m,_,(hx i f hf).trans (List.getElem?_eq_getElem (by omega))⟩
theorem fld_int {t:TypeId} {fs:Array Field} {n:Nat} {cs:List Value} {y:DataW H × List MemPlace} (ht:P.underlying t=some (.struct fs)) (h:DataW.trod enc P w base spare held n t cs=some y) (i:Nat) (f:Field) (hf:fs[i]?=some f)
  (hu:P.underlying f.type=some (.int .i64)):∃ z:Int,cs[f.offset]?=some (.int .i64 z)∧i64 z:=by
 obtain ⟨m,z,hz⟩:=fld ht h i f hf
 obtain ⟨k,hk,_,hw⟩:=DataW.trod_int hu hz
 refine ⟨k,?_,wf_i64 hw⟩
 have h0:((cs.drop f.offset).take (P.cellsOf f.type))[0]?=some (.int .i64 k):=by rw [hk]; rfl
 rw [List.getElem?_take] at h0
 split at h0
 ·rw [List.getElem?_drop,Nat.add_zero] at h0; exact h0
 ·cases h0
theorem fld_string {t:TypeId} {fs:Array Field} {n:Nat} {cs:List Value} {y:DataW H × List MemPlace} (ht:P.underlying t=some (.struct fs)) (h:DataW.trod enc P w base spare held n t cs=some y) (i:Nat) (f:Field) (hf:fs[i]?=some f)
  (hu:P.underlying f.type=some .string):∃ z:ByteArray,cs[f.offset]?=some (.string z):=by
 obtain ⟨m,z,hz⟩:=fld ht h i f hf
 obtain ⟨k,hk,_,hw⟩:=DataW.trod_string hu hz
 refine ⟨k,?_⟩
 have h0:((cs.drop f.offset).take (P.cellsOf f.type))[0]?=some (.string k):=by rw [hk]; rfl
 rw [List.getElem?_take] at h0
 split at h0
 ·rw [List.getElem?_drop,Nat.add_zero] at h0; exact h0
 ·cases h0
theorem fld_bool {t:TypeId} {fs:Array Field} {n:Nat} {cs:List Value} {y:DataW H × List MemPlace} (ht:P.underlying t=some (.struct fs)) (h:DataW.trod enc P w base spare held n t cs=some y) (i:Nat) (f:Field) (hf:fs[i]?=some f)
  (hu:P.underlying f.type=some .bool):∃ z:Bool,cs[f.offset]?=some (.bool z):=by
 obtain ⟨m,z,hz⟩:=fld ht h i f hf
 obtain ⟨k,hk,_⟩:=DataW.trod_bool hu hz
 refine ⟨k,?_⟩
 have h0:((cs.drop f.offset).take (P.cellsOf f.type))[0]?=some (.bool k):=by rw [hk]; rfl
 rw [List.getElem?_take] at h0
 split at h0
 ·rw [List.getElem?_drop,Nat.add_zero] at h0; exact h0
 ·cases h0
theorem fld_two {t:TypeId} {fs gs:Array Field} {n:Nat} {cs:List Value} {y:DataW H × List MemPlace} (ht:P.underlying t=some (.struct fs)) (h:DataW.trod enc P w base spare held n t cs=some y) (i:Nat) (f f0 f1:Field) (hf:fs[i]?=some f)
  (hu:P.underlying f.type=some (.struct gs)) (h0:gs[0]?=some f0) (h1:gs[1]?=some f1) (u0:P.underlying f0.type=some (.int .i64)) (u1:P.underlying f1.type=some (.int .i64)) :
  ∃ a b:Int,cs[f.offset + f0.offset]?=some (.int .i64 a)∧cs[f.offset + f1.offset]?=some (.int .i64 b)∧i64 a∧i64 b:=by
 obtain ⟨m,z,hz⟩:=fld ht h i f hf
 obtain ⟨a,ha,wa⟩:=fld_int hu hz 0 f0 h0 u0
 obtain ⟨b,hb,wb⟩:=fld_int hu hz 1 f1 h1 u1
 refine ⟨a,b,?_,?_,wa,wb⟩
 ·rw [List.getElem?_take] at ha
  split at ha
  ·rw [List.getElem?_drop] at ha; exact ha
  ·cases ha
 ·rw [List.getElem?_take] at hb
  split at hb
  ·rw [List.getElem?_drop] at hb; exact hb
  ·cases hb
theorem len_struct {t:TypeId} {fs:Array Field} {n:Nat} {cs:List Value} {y:DataW H × List MemPlace} (ht:P.underlying t=some (.struct fs)) (h:DataW.trod enc P w base spare held n t cs=some y):cs.length=P.cellsOf t:=by
 obtain ⟨xs,m,_,_,hl,_⟩:=DataW.trod_struct ht h
 exact hl
theorem slice_rows {α:Type} {t e:TypeId} {fuel k:Nat} {cs:List Value} {x:DataW H × List MemPlace} (cells:α→List Value) (Good:α→Prop) (ht:P.underlying t=some (.slice e)) (hC:P.cellsOf e=k) (hk:0 < k)
  (each:∀ n cs' y,DataW.trod enc P w base spare held n e cs'=some y→∃ r:α,cs'=cells r∧Good r) (h:DataW.trod enc P w base spare held fuel t cs=some x) :
  ∃ (v:Value) (rows:List α),cs=[v]∧ARd w v k (rows.map cells)∧∀ r∈rows,Good r:=by
 rcases open_slice ht h with ⟨hc,_⟩ | ⟨a,len,cap,m,n,D,Pl,hc,_,hlc,_,hm,_,hi⟩
 ·exact ⟨_,[],hc,⟨none,0,rfl,fun i h=>absurd h (Nat.not_lt_zero i)⟩,fun r h=>by cases h⟩
 ·rw [hC] at hi
  have hml:len≤m:=by rw [hm]; split <;> omega
  have pick:∀ i:Fin len,∃ r:α,w.cells? base (a.add (i.val * k)) k=some (cells r)∧Good r:=fun i=>by
   obtain ⟨cs',h1,h2⟩:=hi i.val (by omega)
   obtain ⟨r,hr,hg⟩:=each _ _ _ h2
   exact ⟨r,by rw [h1,hr],hg⟩
  obtain ⟨rows,hlen,hrow⟩:∃ rows:List α,rows.length=len∧∀ i (h:i < rows.length),w.cells? base (a.add (i * k)) k=some (cells rows[i])∧Good rows[i]:=by
   refine ⟨List.ofFn fun i:Fin len=>Classical.choose (pick i),by simp,fun i h=>?_⟩
   have hil:i < len:=by simpa using h
   simp only [List.getElem_ofFn]
   exact Classical.choose_spec (pick ⟨i,hil⟩)
  refine ⟨_,rows,hc,⟨some a,cap,by simp [hlen],fun i hi'=>?_⟩,fun r hr=>?_⟩
  ·have hil:i < rows.length:=by simpa using hi'
   obtain ⟨_,hl,hcell⟩:=World.cells?_some (hrow i hil).1
   obtain ⟨_,hl0,hcell0⟩:=World.cells?_some (hrow 0 (by omega)).1
   have h1:=hcell0 0 hk
   rw [Nat.zero_mul] at h1
   obtain ⟨u0,hu0⟩:∃ u,(cells rows[0])[0]?=some u:=⟨_,List.getElem?_eq_getElem (show 0 < (cells rows[0]).length by omega)⟩
   rw [hu0] at h1
   have h1:w.cell? a=some u0:=h1
   have hs:=spot_none h1
   refine ⟨a.block,a.off,by rw [← hs],cell_size h1,fun j u hj=>?_⟩
   rw [List.getElem_map] at hj
   have hjk:j < k:=by
    have:=(List.getElem?_eq_some_iff.1 hj).1
    omega
   have h2:=hcell j hjk
   rw [hs,add_at,add_at] at h2
   rw [h2]
   exact hj
  ·obtain ⟨i,hi',rfl⟩:=List.mem_iff_getElem.1 hr
   exact (hrow i hi').2
end
theorem list3 {cs:List Value} {a b c:Value} (hl:cs.length=3) (h0:cs[0]?=some a) (h1:cs[1]?=some b) (h2:cs[2]?=some c):cs=[a,b,c]:=by
 match cs,hl with
 | [_,_,_],_=>simp at h0 h1 h2; rw [h0,h1,h2]
theorem list4 {cs:List Value} {a b c d:Value} (hl:cs.length=4) (h0:cs[0]?=some a) (h1:cs[1]?=some b) (h2:cs[2]?=some c) (h3:cs[3]?=some d):cs=[a,b,c,d]:=by
 match cs,hl with
 | [_,_,_,_],_=>simp at h0 h1 h2 h3; rw [h0,h1,h2,h3]
theorem list5 {cs:List Value} {a b c d e:Value} (hl:cs.length=5) (h0:cs[0]?=some a) (h1:cs[1]?=some b) (h2:cs[2]?=some c) (h3:cs[3]?=some d) (h4:cs[4]?=some e):cs=[a,b,c,d,e]:=by
 match cs,hl with
 | [_,_,_,_,_],_=>simp at h0 h1 h2 h3 h4; rw [h0,h1,h2,h3,h4]
theorem list6 {cs:List Value} {a b c d e f:Value} (hl:cs.length=6) (h0:cs[0]?=some a) (h1:cs[1]?=some b) (h2:cs[2]?=some c) (h3:cs[3]?=some d) (h4:cs[4]?=some e) (h5:cs[5]?=some f):cs=[a,b,c,d,e,f]:=by
 match cs,hl with
 | [_,_,_,_,_,_],_=>simp at h0 h1 h2 h3 h4 h5; rw [h0,h1,h2,h3,h4,h5]
section
variable {H : Type} {enc : TypeId × Value → H} {W : World} {base : Nat} {spare : Nat → Bool} {held : Bool}
theorem cO_dv:Tryz.prog.cellsOf 84=3:=by kernel_rfl
theorem cO_rk:Tryz.prog.cellsOf 107=6:=by kernel_rfl
theorem cO_st:Tryz.prog.cellsOf 151=5:=by kernel_rfl
theorem cO_pt:Tryz.prog.cellsOf 148=4:=by kernel_rfl
theorem cO_cp:Tryz.prog.cellsOf 153=6:=by kernel_rfl
theorem dv_open (n:Nat) (cs:List Value) (y:DataW H × List MemPlace) (h:DataW.trod enc Tryz.prog W base spare held n 84 cs=some y):∃ d:Dv,cs=dvC d∧i64 d.lo∧i64 d.hi:=by
 have hl:=(len_struct Tryz.underlying84 h).trans cO_dv
 obtain ⟨a,ha⟩:=fld_string Tryz.underlying84 h 0 _ rfl Tryz.underlying9
 obtain ⟨b,hb,wb⟩:=fld_int Tryz.underlying84 h 1 _ rfl Tryz.underlying3
 obtain ⟨c,hc,wc⟩:=fld_int Tryz.underlying84 h 2 _ rfl Tryz.underlying3
 exact ⟨⟨a,b,c⟩,list3 hl ha hb hc,wb,wc⟩
theorem pt_open (n:Nat) (cs:List Value) (y:DataW H × List MemPlace) (h:DataW.trod enc Tryz.prog W base spare held n 148 cs=some y):∃ p:Pt,cs=ptC p∧i64 p.rank∧i64 p.shift∧i64 p.lo∧i64 p.hi:=by
 have hl:=(len_struct Tryz.underlying148 h).trans cO_pt
 obtain ⟨a,ha,wa⟩:=fld_int Tryz.underlying148 h 0 _ rfl Tryz.underlying3
 obtain ⟨b,hb,wb⟩:=fld_int Tryz.underlying148 h 1 _ rfl Tryz.underlying3
 obtain ⟨c,hc,wc⟩:=fld_int Tryz.underlying148 h 2 _ rfl Tryz.underlying3
 obtain ⟨d,hd,wd⟩:=fld_int Tryz.underlying148 h 3 _ rfl Tryz.underlying3
 exact ⟨⟨a,b,c,d⟩,list4 hl ha hb hc hd,wa,wb,wc,wd⟩
theorem rk_open (n:Nat) (cs:List Value) (y:DataW H × List MemPlace) (h:DataW.trod enc Tryz.prog W base spare held n 107 cs=some y):∃ r:Rk,cs=rkC r∧i64 r.kind∧i64 r.num∧i64 r.den∧i64 r.low∧i64 r.cnt:=by
 have hl:=(len_struct Tryz.underlying107 h).trans cO_rk
 obtain ⟨a,ha⟩:=fld_string Tryz.underlying107 h 0 _ rfl Tryz.underlying9
 obtain ⟨b,hb,wb⟩:=fld_int Tryz.underlying107 h 1 _ rfl Tryz.underlying3
 obtain ⟨c,d,hc,hd,wc,wd⟩:=fld_two Tryz.underlying107 h 2 _ _ _ rfl Tryz.underlying105 rfl rfl Tryz.underlying3 Tryz.underlying3
 obtain ⟨e,he,we⟩:=fld_int Tryz.underlying107 h 3 _ rfl Tryz.underlying3
 obtain ⟨f,hf,wf⟩:=fld_int Tryz.underlying107 h 4 _ rfl Tryz.underlying3
 exact ⟨⟨a,b,c,d,e,f⟩,list6 hl ha hb hc hd he hf,wb,wc,wd,we,wf⟩
theorem cp_open (n:Nat) (cs:List Value) (y:DataW H × List MemPlace) (h:DataW.trod enc Tryz.prog W base spare held n 153 cs=some y):∃ r:Cp,cs=cpC r∧i64 r.frm∧i64 r.to∧i64 r.shift∧i64 r.only:=by
 have hl:=(len_struct Tryz.underlying153 h).trans cO_cp
 obtain ⟨a,ha⟩:=fld_string Tryz.underlying153 h 0 _ rfl Tryz.underlying9
 obtain ⟨b,hb,wb⟩:=fld_int Tryz.underlying153 h 1 _ rfl Tryz.underlying3
 obtain ⟨c,hc,wc⟩:=fld_int Tryz.underlying153 h 2 _ rfl Tryz.underlying3
 obtain ⟨d,hd,wd⟩:=fld_int Tryz.underlying153 h 3 _ rfl Tryz.underlying3
 obtain ⟨e,he,we⟩:=fld_int Tryz.underlying153 h 4 _ rfl Tryz.underlying3
 obtain ⟨f,hf⟩:=fld_bool Tryz.underlying153 h 5 _ rfl Tryz.underlying4
 exact ⟨⟨a,b,c,d,e,f⟩,list6 hl ha hb hc hd he hf,wb,wc,wd,we⟩
theorem st_open (n:Nat) (cs:List Value) (y:DataW H × List MemPlace) (h:DataW.trod enc Tryz.prog W base spare held n 151 cs=some y) :
  ∃ r:St × Value,cs=stC r.1 r.2∧i64 r.1.div∧i64 r.1.num∧i64 r.1.den∧ARd W r.2 4 (r.1.parts.map ptC)∧∀ p∈r.1.parts,i64 p.rank∧i64 p.shift∧i64 p.lo∧i64 p.hi:=by
 have hl:=(len_struct Tryz.underlying151 h).trans cO_st
 obtain ⟨a,ha⟩:=fld_string Tryz.underlying151 h 0 _ rfl Tryz.underlying9
 obtain ⟨b,hb,wb⟩:=fld_int Tryz.underlying151 h 1 _ rfl Tryz.underlying3
 obtain ⟨c,d,hc,hd,wc,wd⟩:=fld_two Tryz.underlying151 h 2 _ _ _ rfl Tryz.underlying105 rfl rfl Tryz.underlying3 Tryz.underlying3
 obtain ⟨m,z,hz⟩:=fld Tryz.underlying151 h 3 _ rfl
 obtain ⟨v,ps,hv,hps,hg⟩:=slice_rows ptC (fun p=>i64 p.rank∧i64 p.shift∧i64 p.lo∧i64 p.hi) Tryz.underlying149 cO_pt (by omega) pt_open hz
 have h4:cs[4]?=some v:=by
  have h0:=congrArg (fun l=>l[0]?) hv
  simp only [List.getElem?_take] at h0
  split at h0
  ·rw [List.getElem?_drop] at h0; exact h0
  ·cases h0
 exact ⟨(⟨a,b,c,d,ps⟩,v),list5 hl ha hb hc hd h4,wb,wc,wd,hps,hg⟩
set_option maxRecDepth 100000 in
theorem spec_open {b0:Nat} {r:Reach} {v:Value} {d:DataW H} {p:List MemPlace} (hv:Value.okWide Tryz.prog W r b0 27 v) (h:DataW.Trod enc Tryz.prog W base spare held 27 v d p) :
  ∃ (v1 v2 v3 v4:Value) (S:Sp) (f:Nat→Value),v = .agg #[v1,v2,v3,v4]∧SpRd W v1 v2 v3 v4 f S∧SpInt S:=by
 obtain ⟨v1,v2,v3,v4,y1,y2,y3,y4,n,rfl,_,_,e1,e2,e3,e4⟩:=Go.Joins.open_agg4 Tryz.underlying27 (by kernel_rfl) (by kernel_rfl) hv h
 obtain ⟨u1,ds,h1,r1,g1⟩:=slice_rows dvC (fun d=>i64 d.lo∧i64 d.hi) Tryz.underlying22 cO_dv (by omega) dv_open e1
 obtain ⟨u2,rs,h2,r2,g2⟩:=slice_rows rkC (fun r=>i64 r.kind∧i64 r.num∧i64 r.den∧i64 r.low∧i64 r.cnt) Tryz.underlying23 cO_rk (by omega) rk_open e2
 obtain ⟨u3,ss,h3,r3,g3⟩:=slice_rows (fun r:St × Value=>stC r.1 r.2) (fun r=>i64 r.1.div∧i64 r.1.num∧i64 r.1.den∧ARd W r.2 4 (r.1.parts.map ptC)∧∀ p∈r.1.parts,i64 p.rank∧i64 p.shift∧i64 p.lo∧i64 p.hi) Tryz.underlying24 cO_st (by omega) st_open e3
 obtain ⟨u4,cps,h4,r4,g4⟩:=slice_rows cpC (fun r=>i64 r.frm∧i64 r.to∧i64 r.shift∧i64 r.only) Tryz.underlying25 cO_cp (by omega) cp_open e4
 obtain rfl:v1=u1:=by simpa using h1
 obtain rfl:v2=u2:=by simpa using h2
 obtain rfl:v3=u3:=by simpa using h3
 obtain rfl:v4=u4:=by simpa using h4
 refine ⟨v1,v2,v3,v4,⟨ds,rs,ss.map (fun r=>r.1),cps⟩,fun i=>(ss.map (fun r=>r.2)).getD i (.int .i64 0),rfl,⟨r1,r2,?_,r4,?_⟩,?_⟩
 ·have e:((ss.map (fun r:St × Value=>r.1)).mapIdx fun i x=>stC x ((ss.map (fun r:St × Value=>r.2)).getD i (.int .i64 0)))=ss.map fun r=>stC r.1 r.2:=by
   apply List.ext_getElem
   ·simp
   ·intro i h1 h2
    have hi:i < ss.length:=by simpa using h2
    simp [hi]
  show ARd W v3 5 ((ss.map (fun r:St × Value=>r.1)).mapIdx _)
  rw [e]
  exact r3
 ·intro i hi
  have hi':i < ss.length:=by simpa using hi
  have hg:=(g3 ss[i] (List.getElem_mem hi')).2.2.2.1
  have e1:((ss.map (fun r:St × Value=>r.2)).getD i (.int .i64 0))=ss[i].2:=by simp [hi']
  have e2:(ss.map (fun r:St × Value=>r.1))[i]'hi=ss[i].1:=by simp
  show ARd W ((ss.map (fun r:St × Value=>r.2)).getD i (.int .i64 0)) 4 (((ss.map (fun r:St × Value=>r.1))[i]'hi).parts.map ptC)
  rw [e1,e2]
  exact hg
 ·refine ⟨g1,g2,fun x hx=>?_,fun x hx p hp=>?_,g4⟩
  ·obtain ⟨r,hr,rfl⟩:=List.mem_map.1 hx
   exact ⟨(g3 r hr).1,(g3 r hr).2.1,(g3 r hr).2.2.1⟩
  ·obtain ⟨r,hr,rfl⟩:=List.mem_map.1 hx
   exact (g3 r hr).2.2.2.2 p hp
end
end Go.Proofs.YthhfmppealmblaaGreatDoor
namespace Go.Proofs.YthhfmppealmblaaGreatDoor
open Go.ChangeShapes Go.WideShapes Go.ChangeAt Go.ChangeMaps Go.RowKit
theorem own:ownKnob Tryz.prog.godebug=none:=by kernel_rfl
theorem lays:laidOutB Tryz.prog=true:=by kernel_rfl
theorem gPow:Tryz.prog.globalNamed "internal/strconv.uint64pow10"=some 0:=by kernel_rfl
theorem yPow:(Tryz.prog.globals[0]?).map (·.type)=some 281:=by kernel_rfl
theorem cPow:Tryz.prog.cellsOf 281=20:=by kernel_rfl
theorem cPow1:Tryz.prog.cellsOf 229=1:=by kernel_rfl
def listT:List (String × DataW Unit):=Rows.auditClaimsRow.laid
theorem tabsT {W:World} (h:laidMetH Tryz.prog listT W):Tabs W where
 pow:=by
  rw [MakeChecks.laidMetH_plain _ _ _ (by kernel_rfl)] at h
  exact Lib.tabIs_of_head gPow yPow Tryz.underlying281 Tryz.underlying229 cPow1 cPow (h.tail.tail)
noncomputable def laidWorld (os:Os):World:=World.doorLaid Tryz.prog 80 os
theorem metT (os:Os) (args:Array Value):laidMet Tryz.prog listT ((laidWorld os).forCall (fun _ _=>0) ⟨#[],args,[]⟩).memory :=
 laidMet_of_run' 8 (by kernel_rfl) (by kernel_rfl)
theorem hasO (os:Os) (args:Array Value):((laidWorld os).forCall (fun _ _=>0) ⟨#[],args,[]⟩).variablesRefB Tryz.prog=true:=by kernel_rfl
theorem restT (os:Os) (args:Array Value):((((laidWorld os).forCall (fun _ _=>0) ⟨#[],args,[]⟩).heap.toList.drop Tryz.prog.globals.size).take ((begin Tryz.prog (fun _ _=>0) default).world.heap.size - Tryz.prog.globals.size)) =
  (begin Tryz.prog (fun _ _=>0) default).world.heap.toList.drop Tryz.prog.globals.size:=by kernel_rfl
end Go.Proofs.YthhfmppealmblaaGreatDoor
namespace Go.Proofs.YthhfmppealmblaaGreatDoor
open Go.ChangeShapes Go.WideShapes Go.ChangeAt Go.ChangeMaps Go.RowKit
section
variable {H : Type} {enc : TypeId × Value → H} {W : World} {base : Nat} {spare : Nat → Bool} {held : Bool}
theorem cP_ev:Tryz.prog.cellsOf 42=5:=by kernel_rfl
theorem cP_cl:Tryz.prog.cellsOf 47=4:=by kernel_rfl
theorem ev_open (n:Nat) (cs:List Value) (y:DataW H × List MemPlace) (h:DataW.trod enc Tryz.prog W base spare held n 42 cs=some y):∃ x:Ev,cs=evC x∧True:=by
 have hl:=(len_struct Tryz.underlying42 h).trans cP_ev
 obtain ⟨a,ha,_⟩:=fld_int Tryz.underlying42 h 0 _ rfl Tryz.underlying2
 obtain ⟨b,hb,_⟩:=fld_int Tryz.underlying42 h 1 _ rfl Tryz.underlying3
 obtain ⟨c,hc,_⟩:=fld_int Tryz.underlying42 h 2 _ rfl Tryz.underlying3
 obtain ⟨d,hd,_⟩:=fld_int Tryz.underlying42 h 3 _ rfl Tryz.underlying3
 obtain ⟨e,he,_⟩:=fld_int Tryz.underlying42 h 4 _ rfl Tryz.underlying3
 exact ⟨(a,b,c,d,e),list5 hl ha hb hc hd he,trivial⟩
theorem cl_open (n:Nat) (cs:List Value) (y:DataW H × List MemPlace) (h:DataW.trod enc Tryz.prog W base spare held n 47 cs=some y):∃ x:Cl,cs=clC x∧True:=by
 have hl:=(len_struct Tryz.underlying47 h).trans cP_cl
 obtain ⟨a,b,ha,hb,_,_⟩:=fld_two Tryz.underlying47 h 0 _ _ _ rfl Tryz.underlying45 rfl rfl Tryz.underlying3 Tryz.underlying3
 obtain ⟨c,hc,_⟩:=fld_int Tryz.underlying47 h 1 _ rfl Tryz.underlying2
 obtain ⟨d,hd,_⟩:=fld_int Tryz.underlying47 h 2 _ rfl Tryz.underlying2
 exact ⟨((a,b),c,d),list4 hl ha hb hc hd,trivial⟩
set_option maxRecDepth 100000 in
theorem rec_open {b0:Nat} {r:Reach} {v:Value} {d:DataW H} {p:List MemPlace} (hv:Value.okWide Tryz.prog W r b0 28 v) (h:DataW.Trod enc Tryz.prog W base spare held 28 v d p) :
  ∃ l:List Ev,ARd W v 5 (l.map evC):=by
 obtain ⟨a0,l0,c0,rfl⟩:=okWide_slice Tryz.underlying28 hv
 obtain ⟨fuel,hf⟩:=h
 obtain ⟨v',l,hc,hr,_⟩:=slice_rows evC (fun _=>True) Tryz.underlying28 cP_ev (by omega) ev_open hf
 simp only [Value.cells,List.cons.injEq,and_true] at hc
 exact ⟨l,by rw [hc]; exact hr⟩
set_option maxRecDepth 100000 in
theorem clm_open {b0:Nat} {r:Reach} {v:Value} {d:DataW H} {p:List MemPlace} (hv:Value.okWide Tryz.prog W r b0 29 v) (h:DataW.Trod enc Tryz.prog W base spare held 29 v d p) :
  ∃ l:List Cl,ARd W v 4 (l.map clC):=by
 obtain ⟨a0,l0,c0,rfl⟩:=okWide_slice Tryz.underlying29 hv
 obtain ⟨fuel,hf⟩:=h
 obtain ⟨v',l,hc,hr,_⟩:=slice_rows clC (fun _=>True) Tryz.underlying29 cP_cl (by omega) cl_open hf
 simp only [Value.cells,List.cons.injEq,and_true] at hc
 exact ⟨l,by rw [hc]; exact hr⟩
end
end Go.Proofs.YthhfmppealmblaaGreatDoor
