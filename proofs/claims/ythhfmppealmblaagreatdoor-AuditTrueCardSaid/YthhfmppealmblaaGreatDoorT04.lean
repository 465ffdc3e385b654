/-
  A part of the proof: L24, OpenS, Open, OpenA.
-/
import Derived.Test.YthhfmppealmblaaGreatDoorT03
import Derived.Test.YthhfmppealmblaaGreatDoorQ02
import Derived.Deep.Slices
import Derived.Deep.Fields
import Derived.ChangeSame
import Derived.ChangeArms
import Derived.OpenShut
import Derived.Lib.SmallJoins
import Derived.Test.YthhfmppealmblaaGreatDoorCards
import Derived.Test.YthhfmppealmblaaGreatDoorTie
import Derived.Test.YthhfmppealmblaaGreatDoorQ01
import Derived.WalkKit
import Derived.ProofKit
import Derived.Deep.DeepHandedRow
import Derived.Deep.DeepWitnessRowRef
import Derived.Lib.LaidTab
import Derived.LaidMore
import Derived.ShutString
import Derived.Stop.LaidErr
import Derived.MakeChecks
import Derived.Test.YthhfmppealmblaaGreatDoorQ21
namespace Go.Proofs.YthhfmppealmblaaGreatDoor
open Go.RowKit
theorem step_appendK {P:Program} {ops:Array Oper} {o:Oper} {a:Act} {w:World} {K:Act→World→Prop} {Q:Exit→Act→World→Prop} {E:Prop}
    (hg:o.guard=none) (d x:Operand) (dT sT:TypeId) (hop:o.op=Op.call { callee:=Callee.builtin Builtin.append,args:=#[d,x],argTypes:=#[dT,sT] })
    (v u:Value) (hd:a.eval d=v) (hx:a.eval x=u) {v':Value} {w':World} (hr:(Builtin.append_ #[dT,sT] o.type #[v,u]).run P w = .ok v' w') (hK:K (a.put o.dst v') w') :
    if Region.wanted o (yielded ops a.tmps)=true then Oper.wp P o a w K Q else E:=by
  have hw:Region.wanted o (yielded ops a.tmps)=true:=by simp [Region.wanted,hg]
  rw [if_pos hw]
  unfold Oper.wp
  simp [execOp,hop,resolve,invoke,builtin,hd,hx,hr,Result.andThen]
  exact hK
theorem append_cl (W:World) (base:Nat) (V:Value) (xs:List Cl) (hown:W.ownsRow base 47 4 V xs.length (clCs xs)) (v:Value) (l:List Cl) (hv:ARd W v 4 (l.map clC)) (hl:xs.length + l.length≤1000000000) (hb:base≤W.heap.size) :
    ∃ V' w',(Builtin.append_ #[29,29] 29 #[V,v]).run Tryz.prog W = .ok V' w'∧w'.ownsRow base 47 4 V' (xs ++ l).length (clCs (xs ++ l))∧W.grownBy w' V.ownBlock:=by
  obtain ⟨i0,hi,hz0,hz1,hz2⟩:=info_parts cl_info
  obtain ⟨V',w',h1,h2,h3⟩:=append_src W base 29 47 i0 _ 4 32 Tryz.underlying29 hi hz0 hz1 hz2 rfl (by omega) (by omega) V xs.length (clCs xs) hown v (l.map clC) (by intro r hr; obtain ⟨p,_,rfl⟩:=List.mem_map.1 hr; rfl) (by
    intro u hu
    obtain ⟨r,hr,hu⟩:=List.mem_flatten.1 hu
    obtain ⟨p,_,rfl⟩:=List.mem_map.1 hr
    simp only [clC,List.mem_cons,List.not_mem_nil,or_false] at hu
    rcases hu with rfl | rfl | rfl | rfl <;> rfl) hv (by simpa using hl) hb
  refine ⟨V',w',h1,?_,h3⟩
  rw [List.length_map] at h2
  rw [List.length_append]
  unfold clCs at h2 ⊢
  rw [List.map_append,List.flatten_append]
  exact h2
theorem row_emptyC (w:World) (t:TypeId):(w.alloc (.cells #[] t)).ownsRow w.heap.size t 4 (.slice (some ⟨w.heap.size,0,none⟩) 0 0) ([]:List Cl).length (clCs []) :=
  ⟨rfl,.inr ⟨w.heap.size,0,#[],rfl,Nat.le_refl _,World.alloc_heap_new w _,Nat.le_refl _,Nat.zero_le _,rfl,rfl⟩⟩
theorem ARd.preC {W:World} {a:Option Addr} {c:Nat} {l:List Cl} (h:ARd W (.slice a l.length c) 4 (l.map clC)) {i:Nat} (hi:i≤l.length) (c':Nat):ARd W (.slice a i c') 4 ((l.take i).map clC):=by
  obtain ⟨a2,c2,e,hr⟩:=h
  rw [List.length_map] at e
  cases e
  refine ⟨a,c',by simp [Nat.min_eq_left hi],fun j hj=>?_⟩
  have hj2:j < l.length:=by simp at hj; omega
  obtain ⟨b,o,ha,hlt,hc⟩:=hr j (by simpa using hj2)
  refine ⟨b,o,ha,hlt,fun k u hk=>hc k u ?_⟩
  rw [← hk]
  simp
theorem ARd.sufC {W:World} {b o c:Nat} {l:List Cl} (h:ARd W (.slice (some ⟨b,o,none⟩) l.length c) 4 (l.map clC)) {i:Nat} (hi:i < l.length) (c':Nat):ARd W (.slice (some ⟨b,o + i * 4,none⟩) (l.length - i) c') 4 ((l.drop i).map clC):=by
  obtain ⟨a2,c2,e,hr⟩:=h
  rw [List.length_map] at e
  cases e
  refine ⟨some ⟨b,o + i * 4,none⟩,c',by simp,fun j hj=>?_⟩
  have hj2:i + j < l.length:=by simp at hj; omega
  obtain ⟨b2,o2,ha,hlt,hc⟩:=hr (i + j) (by simpa using hj2)
  cases ha
  refine ⟨b,o + i * 4,rfl,hlt,fun k u hk=>?_⟩
  have:=hc k u (by rw [← hk]; simp)
  rw [show o + (i + j) * 4 + k=o + i * 4 + j * 4 + k by omega] at this
  exact this
theorem two_cls (w W0:World) (l r:List Cl) (vl vr:Value) (hb0:Below w.heap.size w W0) (h0:W0.ownsRow w.heap.size 47 4 (.slice (some ⟨w.heap.size,0,none⟩) 0 0) ([]:List Cl).length (clCs [])) (hl:ARd W0 vl 4 (l.map clC)) (hr:ARd w vr 4 (r.map clC)) (hn:l.length + r.length≤1000000) :
    ∃ V1 w1 V2 w2,(Builtin.append_ #[29,29] 29 #[.slice (some ⟨w.heap.size,0,none⟩) 0 0,vl]).run Tryz.prog W0 = .ok V1 w1 ∧
      (Builtin.append_ #[29,29] 29 #[V1,vr]).run Tryz.prog w1 = .ok V2 w2∧w2.ownsRow w.heap.size 47 4 V2 (l ++ r).length (clCs (l ++ r))∧Below w.heap.size w w1∧Below w.heap.size w w2:=by
  obtain ⟨V1,w1,r1,o1,g1⟩:=append_cl _ w.heap.size _ [] h0 vl l hl (by simp; omega) hb0.size
  rw [List.nil_append] at o1
  have hb1:Below w.heap.size w w1:=hb0.grown g1 hb0.size (fun j e=>by simp [Value.ownBlock] at e; omega)
  obtain ⟨V2,w2,r2,o2,g2⟩:=append_cl _ w.heap.size _ l o1 vr r (hr.later hb1) (by omega) hb1.size
  exact ⟨V1,w1,V2,w2,r1,r2,o2,hb1,hb1.grown g2 hb1.size (fun j e=>row_ge o1 e)⟩
theorem row_capS {W:World} {base:Nat} {t:TypeId} {k n c:Nat} {a:Option Addr} {xs:List Value} (h:W.ownsRow base t k (.slice a n c) n xs):n≤c:=by
  rcases h.2 with ⟨e,_⟩ | ⟨g,cap,cur,e,_,_,hcap,_⟩
  · cases e; exact Nat.le_refl _
  · cases e; exact hcap
theorem u16_bounds {a:Int} (h:(Lit.int .u16 a).wf=true):0≤a∧a < 65536:=by
  have h2:IntKind.u16.min≤a∧a≤IntKind.u16.max:=by simpa only [Lit.wf,Bool.and_eq_true,decide_eq_true_eq] using h
  have e1:IntKind.u16.min=0:=rfl
  have e2:IntKind.u16.max=65535:=rfl
  omega
theorem sdE_ok {S:Sp} {B:(Th→Int)→Pp→Bool} {l:List Ev} {R:List Cl} (h:SdE S B l R 0):(recE S l).2=0∧R=sndsL S B l∧R.length≤20000:=by
  rcases h with ⟨h0,_,h1⟩ | ⟨h0,⟨h1,h2,_⟩ | ⟨_,h1,_⟩⟩
  · exact absurd h1.symm h0
  · exact ⟨h0,h1,h2⟩
  · cases h1
theorem audE_of {S:Sp} {l:List Ev} (h:(recE S l).2=0):audE S l=0:=by
  unfold audE
  rw [if_pos (recE_ok h).sp,if_pos h]
set_option maxRecDepth 100000 in
set_option maxHeartbeats 12800000 in
theorem auditTrue_walk (v1 v2 v3 v4:Value) (S:Sp) (l:List Ev) (vl:Value) (n:Int) (w:World) (t:Tabs w) (f:Nat→Value) (hsp:SpRd w v1 v2 v3 v4 f S) (hlv:ARd w vl 5 (l.map evC)) (hn0:0≤n) (hn1:n < 65536) :
    Calls Tryz.prog 5 #[.agg #[v1,v2,v3,v4],vl,.int .u16 n] w (BoR true w):=by
  obtain ⟨B,hB⟩:=sndIs_ex S
  obtain ⟨al,cl,evl⟩:=hlv.evForm
  subst evl
  have hal:=(Below.refl _ w).alloc (Nat.le_refl w.heap.size) (.cells #[v1,v2,v3,v4] 27)
  have hk:=Blk.new w 27 #[v1,v2,v3,v4]
  have HGR:=Lib.hid (great_any v1 v2 v3 v4 S f l (.slice al l.length cl) _ (hsp.later hal) (hlv.later hal))
  have HAW:=Lib.hid (fun (W:World) (hb:Below w.heap.size w W)=>awake_any W (t.below hb))
  have HT:=Lib.hid t
  have HAL:=Lib.hid hal
  have HK:=Lib.hid hk
  have HSP:=Lib.hid hsp
  have HLV:=Lib.hid hlv
  have HSB:=Lib.hid hB
  obtain ⟨s0,s1,s2,s3⟩:=hk.four
  clear t hal hk hsp hlv hB
  go_enter Tryz.func5,Tryz.ntmps5
  go_wp2_with fail
  refine (HGR.out).mono ?_
  rintro e W ⟨b,rfl,hb0,hb⟩
  have HB1:=Lib.hid (below_step HAL.out hb)
  have HK1:=Lib.hid (HK.out.below hb)
  clear hb HGR HAL HK s0 s1 s2 s3
  cases b with
  | true =>
    clear hb0
    go_wp2_with fail
    refine (HAW.out _ HB1.out).mono ?_
    rintro e W9 ⟨rfl,hb9⟩
    have HB9:=Lib.hid (below_step HB1.out hb9)
    clear hb9
    go_wp2
    go_ret
    exact ⟨rfl,HB9.out⟩
  | false =>
  have HSM:=Lib.hid (hb0 rfl)
  clear hb0
  have hl50:l.length≤50000:=by have:=HSM.out.len; omega
  have HSO:=Lib.hid (sounds31_any v1 v2 v3 v4 S HSM.out.ok f l (.slice al l.length cl) B HSB.out W (HSP.out.later HB1.out) (HLV.out.later HB1.out) hl50)
  have HAC:=Lib.hid (fun (cls:List Cl) (vc:Value) (W2:World) (hb:Below w.heap.size w W2) (hc:ARd W2 vc 4 (cls.map clC)) (hl:cls.length≤50000)=>aclaims_any v1 v2 v3 v4 S HSM.out.ok f l (.slice al l.length cl) cls vc B HSB.out W2 (HT.out.below hb) (HSP.out.later hb) (HLV.out.later hb) hc hl50 hl)
  obtain ⟨s0,s1,s2,s3⟩:=HK1.out.four
  go_wp2_with fail
  refine (HSO.out).mono ?_
  rintro e W2 ⟨vs,R,c,rfl,hrow,hsd,hb⟩
  have HB2:=Lib.hid (below_step HB1.out hb)
  have HK2:=Lib.hid (HK1.out.below hb)
  clear hb HSO HB1 HK1 s0 s1 s2 s3
  by_cases hz:c=0
  case neg =>
    have q1:(c == 0)=false:=by simpa using hz
    have q2:(c != 0)=true:=by simpa using hz
    clear hz hrow hsd
    go_wp2_with fail
    refine (HAW.out _ HB2.out).mono ?_
    rintro e W9 ⟨rfl,hb9⟩
    have HB9:=Lib.hid (below_step HB2.out hb9)
    clear hb9
    go_wp2
    go_ret
    exact ⟨rfl,HB9.out⟩
  subst hz
  obtain ⟨hre,hR,hRl⟩:=sdE_ok hsd
  have HAE:=Lib.hid (audE_of hre)
  have HRD:=Lib.hid (ARd.of_cls hrow)
  obtain ⟨ap,cp,evs⟩:=row_formS hrow
  subst evs
  have hcap:R.length≤cp:=row_capS hrow
  have HTN:=Lib.hid (fun (m:List Fa) (c:Int) (h:ClP S B l R m c)=>by rw [hR] at h; exact true_none HSB.out HAE.out (by rw [← hR]; exact hRl) h)
  have HTO:=Lib.hid (fun (k:Nat) (hk:k < R.length) (m:List Fa) (c:Int) (h:ClP S B l (R.take k ++ R.drop (k + 1)) m c)=>show m=[(1,R[k].1,R[k].2.1,R[k].2.2)]∧c=0 by subst hR; exact true_one HSB.out HAE.out hRl hk h)
  clear hrow hsd hre hR
  obtain ⟨s0,s1,s2,s3⟩:=HK2.out.four
  go_wp2_with fail
  refine (HAC.out R _ W2 HB2.out HRD.out (by omega)).mono ?_
  rintro e W3 ⟨va,m,c,rfl,hra,hca,hb⟩
  obtain ⟨rfl,rfl⟩:=HTN.out m c hca
  obtain ⟨a0,c0,rfl⟩:=row_formS hra
  have HB3:=Lib.hid (below_step HB2.out hb)
  have HK3:=Lib.hid (HK2.out.below hb)
  have HR3:=Lib.hid (HRD.out.later hb)
  clear hb hra hca HTN HB2 HK2 HRD s0 s1 s2 s3
  by_cases hrz:R.length=0
  · have q5:((R.length:Int) == 0)=true:=by rw [beq_iff_eq]; omega
    clear hrz
    go_wp2_with fail
    refine (HAW.out _ HB3.out).mono ?_
    rintro e W9 ⟨rfl,hb9⟩
    have HB9:=Lib.hid (below_step HB3.out hb9)
    clear hb9
    go_wp2
    go_ret
    exact ⟨rfl,HB9.out⟩
  have q5:((R.length:Int) == 0)=false:=by rw [beq_eq_false_iff_ne]; omega
  have hmod:0≤n % (R.length:Int)∧n % (R.length:Int) < (R.length:Int):=⟨Int.emod_nonneg _ (by omega),Int.emod_lt_of_pos _ (by omega)⟩
  obtain ⟨k,hkk⟩:∃ k:Nat,n % (R.length:Int)=(k:Int):=⟨(n % (R.length:Int)).toNat,by omega⟩
  have hk:k < R.length:=by omega
  have hk1:(1:Int)≤(R.length:Int):=by omega
  obtain ⟨b,o,c',ev,hbl,x0,x1,x2,x3⟩:=HR3.out.clAt k hk
  cases ev
  go_upto_region 12 with fail
  try rw [hkk]
  have HKK:=Lib.hid hkk
  clear hkk hmod q5 hrz
  obtain ⟨s0,s1,s2,s3⟩:=HK3.out.four
  have hdb:Below W3.heap.size W3 (W3.alloc (.cells #[] 47)).drew:=((Below.refl _ _).alloc (Nat.le_refl _) _).drew
  have hdr:=hold4 (W0:=W3) ⟨Below.refl _ W3,s0,s1,s2,s3⟩ ((Below.refl _ W3).drew)
  have hda:=hold4 (W0:=W3) ⟨Below.refl _ W3,s0,s1,s2,s3⟩ hdb
  have HPRE:=Lib.hid ((HR3.out.later hdb).preC (Nat.le_of_lt hk) cp)
  have hk2:(k:Int)≤(R.length:Int):=by omega
  have hk3:(k:Int) + 1≤(R.length:Int):=by omega
  have e5:((k:Int) + 1).toNat=k + 1:=by omega
  have e1:IntKind.i64.wrap ((k:Int) + 1)=(k:Int) + 1:=IntWalk.i64_in _ (by omega)
  have e4:(0:Int)≤(k:Int) + 1:=by omega
  have hkn:k + 1≤R.length:=hk
  have hkl2:k≤R.length:=Nat.le_of_lt hk
  have hkc:k≤cp:=by omega
  go_cut [12,10] from 40 to 91 (fun x12 x10 wx=>∃ (vb:Value) (m:List Fa) (c:Int),x12=vb∧x10 = .int .i64 c∧RowKit.Hid (ARd wx vb 5 (m.map faC))∧RowKit.Hid (ClP S B l (R.take k ++ R.drop (k + 1)) m c)∧RowKit.Hid (Below W3.heap.size W3 wx))
  case first =>
    by_cases hkl:k + 1 < R.length
    · have hic:¬ k + 1=cp:=by omega
      have hic2:¬ cp=k + 1:=by omega
      obtain ⟨V1,w1,V2,w2,hr1,hr2,ho,hb1,hb2⟩:=two_cls W3 (W3.alloc (.cells #[] 47)).drew (R.take k) (R.drop (k + 1)) _ (.slice (some ⟨b,o + (k + 1) * 4,none⟩) (R.length - (k + 1)) (cp - (k + 1))) hdb ((row_emptyC W3 47).drew) HPRE.out (HR3.out.sufC hkl _) (by rw [List.length_take,List.length_drop]; omega)
      have hn1:=hold4 (W0:=W3) ⟨Below.refl _ W3,s0,s1,s2,s3⟩ (show Below W3.heap.size W3 w1 from hb1)
      have hn2:=hold4 (W0:=W3) ⟨Below.refl _ W3,s0,s1,s2,s3⟩ (show Below W3.heap.size W3 w2 from hb2)
      have HVC:=Lib.hid (ARd.of_cls ho)
      have hlc:(R.take k ++ R.drop (k + 1)).length≤50000:=by rw [List.length_append,List.length_take,List.length_drop]; omega
      have HCC:=Lib.hid (HAC.out _ V2 w2 (below_step HB3.out hn2.1) HVC.out hlc)
      clear ho hb1 hb2 hlc HPRE HTO HAC x0 x1 x2 x3 s0 s1 s2 s3
      go_region_held3 (fun w'=>Below W3.heap.size W3 w'∧w'.cell? ⟨w.heap.size,0,none⟩=some v1∧w'.cell? ⟨w.heap.size,1,none⟩=some v2∧w'.cell? ⟨w.heap.size,2,none⟩=some v3∧w'.cell? ⟨w.heap.size,3,none⟩=some v4) (first | exact hdr | exact hda | exact hn1 | exact hn2 | assumption | fail) (first | (refine step_appendK rfl _ _ 29 29 rfl (.slice (some ⟨W3.heap.size,0,none⟩) 0 0) (.slice (some ⟨b,o,none⟩) k cp) (by simp [Act.eval]) (by simp [Act.eval]) hr1 ?_) | (refine step_appendK rfl _ _ 29 29 rfl V1 (.slice (some ⟨b,o + (k + 1) * 4,none⟩) (R.length - (k + 1)) (cp - (k + 1))) (by simp [Act.eval]) (by simp [Act.eval]) hr2 ?_) | (go_at_call 14; refine (HCC.out).mono ?_; rintro e w8 ⟨vf,mf,cf,rfl,hrf,hcf,hb8⟩; have hn8:=hold4 hn2 hb8; clear hb8) | fail)
      all_goals
        (have HQ:=Lib.hid (ARd.of_fas hrf)
         have HQB:=Lib.hid hn8.1
         have HQC:=Lib.hid hcf
         clear hdr hda hn1 hn2 hn8 hrf hcf hr1 hr2
         go_wp2_with fail
         go_meet
         exact ⟨vf,mf,cf,rfl,rfl,HQ,HQC,HQB⟩)
    · have hke:k + 1=R.length:=by omega
      have hdz:R.drop (k + 1)=[]:=List.drop_of_length_le (by omega)
      have HDZ:=Lib.hid hdz
      have HKE:=Lib.hid hke
      clear hke
      by_cases hic:k + 1=cp
      · subst hic
        have hz1:(k:Int)≤(k:Int) + 1:=by omega
        obtain ⟨V1,w1,V2,w2,hr1,hr2,ho,hb1,hb2⟩:=two_cls W3 (W3.alloc (.cells #[] 47)).drew (R.take k) (R.drop (k + 1)) _ (.slice (some ⟨b,o,none⟩) 0 0) hdb ((row_emptyC W3 47).drew) HPRE.out (by rw [HDZ.out]; exact ⟨_,_,rfl,fun i hi=>absurd hi (Nat.not_lt_zero i)⟩) (by rw [List.length_take,List.length_drop]; omega)
        have hn1:=hold4 (W0:=W3) ⟨Below.refl _ W3,s0,s1,s2,s3⟩ (show Below W3.heap.size W3 w1 from hb1)
        have hn2:=hold4 (W0:=W3) ⟨Below.refl _ W3,s0,s1,s2,s3⟩ (show Below W3.heap.size W3 w2 from hb2)
        have HVC:=Lib.hid (ARd.of_cls ho)
        have hlc:(R.take k ++ R.drop (k + 1)).length≤50000:=by rw [List.length_append,List.length_take,List.length_drop]; omega
        have HCC:=Lib.hid (HAC.out _ V2 w2 (below_step HB3.out hn2.1) HVC.out hlc)
        clear ho hb1 hb2 hlc HPRE HTO HAC x0 x1 x2 x3 s0 s1 s2 s3
        clear hdz
        go_region_held3 (fun w'=>Below W3.heap.size W3 w'∧w'.cell? ⟨w.heap.size,0,none⟩=some v1∧w'.cell? ⟨w.heap.size,1,none⟩=some v2∧w'.cell? ⟨w.heap.size,2,none⟩=some v3∧w'.cell? ⟨w.heap.size,3,none⟩=some v4) (first | exact hdr | exact hda | exact hn1 | exact hn2 | assumption | fail) (first | (refine step_appendK rfl _ _ 29 29 rfl (.slice (some ⟨W3.heap.size,0,none⟩) 0 0) (.slice (some ⟨b,o,none⟩) k (k + 1)) (by simp [Act.eval]) (by simp [Act.eval]) hr1 ?_) | (refine step_appendK rfl _ _ 29 29 rfl V1 (.slice (some ⟨b,o,none⟩) 0 0) (by simp [Act.eval]) (by simp [Act.eval]) hr2 ?_) | (go_at_call 14; refine (HCC.out).mono ?_; rintro e w8 ⟨vf,mf,cf,rfl,hrf,hcf,hb8⟩; have hn8:=hold4 hn2 hb8; clear hb8) | fail)
        all_goals
          (have HQ:=Lib.hid (ARd.of_fas hrf)
           have HQB:=Lib.hid hn8.1
           have HQC:=Lib.hid hcf
           clear hdr hda hn1 hn2 hn8 hrf hcf hr1 hr2
           go_wp2_with fail
           go_meet
           exact ⟨vf,mf,cf,rfl,rfl,HQ,HQC,HQB⟩)
      · have hic2:¬ cp=k + 1:=fun e=>hic e.symm
        obtain ⟨V1,w1,V2,w2,hr1,hr2,ho,hb1,hb2⟩:=two_cls W3 (W3.alloc (.cells #[] 47)).drew (R.take k) (R.drop (k + 1)) _ (.slice (some ⟨b,o + (k + 1) * 4,none⟩) (R.length - (k + 1)) (cp - (k + 1))) hdb ((row_emptyC W3 47).drew) HPRE.out (by rw [HDZ.out,show R.length - (k + 1)=0 by have:=HKE.out; omega]; exact ⟨_,_,rfl,fun i hi=>absurd hi (Nat.not_lt_zero i)⟩) (by rw [List.length_take,List.length_drop]; omega)
        have hn1:=hold4 (W0:=W3) ⟨Below.refl _ W3,s0,s1,s2,s3⟩ (show Below W3.heap.size W3 w1 from hb1)
        have hn2:=hold4 (W0:=W3) ⟨Below.refl _ W3,s0,s1,s2,s3⟩ (show Below W3.heap.size W3 w2 from hb2)
        have HVC:=Lib.hid (ARd.of_cls ho)
        have hlc:(R.take k ++ R.drop (k + 1)).length≤50000:=by rw [List.length_append,List.length_take,List.length_drop]; omega
        have HCC:=Lib.hid (HAC.out _ V2 w2 (below_step HB3.out hn2.1) HVC.out hlc)
        clear ho hb1 hb2 hlc HPRE HTO HAC x0 x1 x2 x3 s0 s1 s2 s3
        clear hdz
        go_region_held3 (fun w'=>Below W3.heap.size W3 w'∧w'.cell? ⟨w.heap.size,0,none⟩=some v1∧w'.cell? ⟨w.heap.size,1,none⟩=some v2∧w'.cell? ⟨w.heap.size,2,none⟩=some v3∧w'.cell? ⟨w.heap.size,3,none⟩=some v4) (first | exact hdr | exact hda | exact hn1 | exact hn2 | assumption | fail) (first | (refine step_appendK rfl _ _ 29 29 rfl (.slice (some ⟨W3.heap.size,0,none⟩) 0 0) (.slice (some ⟨b,o,none⟩) k cp) (by simp [Act.eval]) (by simp [Act.eval]) hr1 ?_) | (refine step_appendK rfl _ _ 29 29 rfl V1 (.slice (some ⟨b,o + (k + 1) * 4,none⟩) (R.length - (k + 1)) (cp - (k + 1))) (by simp [Act.eval]) (by simp [Act.eval]) hr2 ?_) | (go_at_call 14; refine (HCC.out).mono ?_; rintro e w8 ⟨vf,mf,cf,rfl,hrf,hcf,hb8⟩; have hn8:=hold4 hn2 hb8; clear hb8) | fail)
        all_goals
          (have HQ:=Lib.hid (ARd.of_fas hrf)
           have HQB:=Lib.hid hn8.1
           have HQC:=Lib.hid hcf
           clear hdr hda hn1 hn2 hn8 hrf hcf hr1 hr2
           go_wp2_with fail
           go_meet
           exact ⟨vf,mf,cf,rfl,rfl,HQ,HQC,HQB⟩)
  case rest =>
  obtain ⟨vb,m,c,rfl,rfl,hmv,hcl,hbx⟩:=hcut
  obtain ⟨rfl,rfl⟩:=HTO.out k hk m c hcl.out
  rename World=>W5
  have HB5:=Lib.hid (below_step HB3.out hbx.out)
  obtain ⟨b',o',c9,ev9,hbl9,y0,y1,y2,y3⟩:=(HR3.out.later hbx.out).clAt k hk
  cases ev9
  obtain ⟨q,hq⟩:∃ q,R[k]=q:=⟨_,rfl⟩
  rw [hq] at y0 y1 y2 y3 hmv
  obtain ⟨⟨p1,p2⟩,fr,tt⟩:=q
  simp only at y0 y1 y2 y3 hmv
  have HMV:=Lib.hid hmv.out
  clear hmv hcl hbx x0 x1 x2 x3 hdr hda s0 s1 s2 s3 hq
  go_wp2_with fail
  have hdr:=hold4 (W0:=W5) ⟨Below.refl _ W5,y0,y1,y2,y3⟩ ((Below.refl _ W5).drew)
  have hda:=hold4 (W0:=W5) ⟨Below.refl _ W5,y0,y1,y2,y3⟩ (((Below.refl _ W5).alloc (Nat.le_refl _) (.cells #[.int .i64 1,.int .i64 p1,.int .i64 p2,.int .i64 fr,.int .i64 tt] 52)).drew)
  have hkb:Blk (W5.alloc (.cells #[.int .i64 1,.int .i64 p1,.int .i64 p2,.int .i64 fr,.int .i64 tt] 52)).drew W5.heap.size 52 #[.int .i64 1,.int .i64 p1,.int .i64 p2,.int .i64 fr,.int .i64 tt]:=Blk.new W5 _ _
  have HSA:=Lib.hid (same_any [(1,(p1,p2),fr,tt)] [(1,(p1,p2),fr,tt)] u12 (.slice (some ⟨W5.heap.size,0,none⟩) 1 1) _ (HMV.out.later hda.1) (ARd.of_blk (k:=5) (rows:=([(1,(p1,p2),fr,tt)]:List Fa).map faC) hkb (by intro r hr; obtain ⟨x,_,rfl⟩:=List.mem_map.1 hr; rfl) rfl _ _ rfl) (by simp))
  rw [decide_eq_true rfl] at HSA
  clear HMV hkb
  go_region_held3 (fun w'=>Below W5.heap.size W5 w'∧w'.cell? ⟨b,o + k * 4,none⟩=some (.int .i64 p1)∧w'.cell? ⟨b,o + k * 4 + 1,none⟩=some (.int .i64 p2)∧w'.cell? ⟨b,o + k * 4 + 2,none⟩=some (.int .i64 fr)∧w'.cell? ⟨b,o + k * 4 + 3,none⟩=some (.int .i64 tt)) (first | exact hdr | exact hda | assumption | fail) (first | (go_at_call 16; refine (HSA.out).mono ?_; rintro e w8 ⟨rfl,hb8⟩; have hn8:=hold4 hda hb8; clear hb8) | (go_at_call 13; refine (HAW.out _ (below_step HB5.out hn8.1)).mono ?_; rintro e w9 ⟨rfl,hb9⟩; have hn9:=hold4 hn8 hb9; clear hb9) | fail)
  all_goals
    (have HB9:=Lib.hid (below_step HB5.out hn9.1)
     clear hdr hda hn8 hn9 y0 y1 y2 y3
     go_wp2
     go_ret
     exact ⟨rfl,HB9.out⟩)
end Go.Proofs.YthhfmppealmblaaGreatDoor
namespace Go.Proofs.YthhfmppealmblaaGreatDoor
open Go.ChangeShapes Go.WideShapes Go.RowKit Go.Deep
theorem spot_none {w:World} {a:Addr} {v:Value} (h:w.cell? a=some v):a=⟨a.block,a.off,none⟩:=by
 obtain ⟨b,o,s⟩:=a
 cases s with
 | none=>rfl
 | some x =>
  unfold World.cell? at h
  split at h
  ·simp at h
  ·cases h
theorem add_at (b o n:Nat):(⟨b,o,none⟩:Addr).add n=⟨b,o + n,none⟩:=by
 unfold Addr.add
 split
 ·next h=>subst h; rfl
 ·rfl
theorem wf_i64 {a:Int} (h:(Lit.int .i64 a).wf=true):i64 a:=by
 have h2:IntKind.i64.min≤a∧a≤IntKind.i64.max:=by simpa only [Lit.wf,Bool.and_eq_true,decide_eq_true_eq] using h
 have e1:IntKind.i64.min = -9223372036854775808:=rfl
 have e2:IntKind.i64.max=9223372036854775807:=rfl
 unfold i64
 omega
section
variable {H : Type} {enc : TypeId × Value → H} {P : Program} {w : World} {base : Nat} {spare : Nat → Bool} {held : Bool}
theorem fld {t:TypeId} {fs:Array Field} {n:Nat} {cs:List Value} {y:DataW H × List MemPlace} (ht:P.underlying t=some (.struct fs)) (h:DataW.trod enc P w base spare held n t cs=some y) (i:Nat) (f:Field) (hf:fs[i]?=some f) :
  ∃ (m:Nat) (z:DataW H × List MemPlace),DataW.trod enc P w base spare held m f.type ((cs.drop f.offset).take (P.cellsOf f.type))=some z:=by
 obtain ⟨xs,m,_,_,_,hl,hx⟩:=DataW.trod_struct ht h
 have hi:=(Array.getElem?_eq_some_iff.1 hf).1
 exact ⟨m,_,(hx i f hf).trans (List.getElem?_eq_getElem (by omega))⟩
theorem fld_int {t:TypeId} {fs:Array Field} {n:Nat} {cs:List Value} {y:DataW H × List MemPlace} (ht:P.underlying t=some (.struct fs)) (h:DataW.trod enc P w base spare held n t cs=some y) (i:Nat) (f:Field) (hf:fs[i]?=some f)
  (hu:P.underlying f.type=some (.int .i64)):∃ z:Int,cs[f.offset]?=some (.int .i64 z)∧i64 z:=by
 obtain ⟨m,z,hz⟩:=fld ht h i f hf
 obtain ⟨k,hk,_,hw⟩:=DataW.trod_int hu hz
 refine ⟨k,?_,wf_i64 hw⟩
 have h0:((cs.drop f.offset).take (P.cellsOf f.type))[0]?=some (.int .i64 k):=by rw [hk]; rfl
 rw [List.getElem?_take] at h0
 split at h0
 ·rw [List.getElem?_drop,Nat.add_zero] at h0; exact h0
 ·cases h0
theorem fld_string {t:TypeId} {fs:Array Field} {n:Nat} {cs:List Value} {y:DataW H × List MemPlace} (ht:P.underlying t=some (.struct fs)) (h:DataW.trod enc P w base spare held n t cs=some y) (i:Nat) (f:Field) (hf:fs[i]?=some f)
  (hu:P.underlying f.type=some .string):∃ z:ByteArray,cs[f.offset]?=some (.string z):=by
 obtain ⟨m,z,hz⟩:=fld ht h i f hf
 obtain ⟨k,hk,_,hw⟩:=DataW.trod_string hu hz
 refine ⟨k,?_⟩
 have h0:((cs.drop f.offset).take (P.cellsOf f.type))[0]?=some (.string k):=by rw [hk]; rfl
 rw [List.getElem?_take] at h0
 split at h0
 ·rw [List.getElem?_drop,Nat.add_zero] at h0; exact h0
 ·cases h0
theorem fld_bool {t:TypeId} {fs:Array Field} {n:Nat} {cs:List Value} {y:DataW H × List MemPlace} (ht:P.underlying t=some (.struct fs)) (h:DataW.trod enc P w base spare held n t cs=some y) (i:Nat) (f:Field) (hf:fs[i]?=some f)
  (hu:P.underlying f.type=some .bool):∃ z:Bool,cs[f.offset]?=some (.bool z):=by
 obtain ⟨m,z,hz⟩:=fld ht h i f hf
 obtain ⟨k,hk,_⟩:=DataW.trod_bool hu hz
 refine ⟨k,?_⟩
 have h0:((cs.drop f.offset).take (P.cellsOf f.type))[0]?=some (.bool k):=by rw [hk]; rfl
 rw [List.getElem?_take] at h0
 split at h0
 ·rw [List.getElem?_drop,Nat.add_zero] at h0; exact h0
 ·cases h0
theorem fld_two {t:TypeId} {fs gs:Array Field} {n:Nat} {cs:List Value} {y:DataW H × List MemPlace} (ht:P.underlying t=some (.struct fs)) (h:DataW.trod enc P w base spare held n t cs=some y) (i:Nat) (f f0 f1:Field) (hf:fs[i]?=some f)
  (hu:P.underlying f.type=some (.struct gs)) (h0:gs[0]?=some f0) (h1:gs[1]?=some f1) (u0:P.underlying f0.type=some (.int .i64)) (u1:P.underlying f1.type=some (.int .i64)) :
  ∃ a b:Int,cs[f.offset + f0.offset]?=some (.int .i64 a)∧cs[f.offset + f1.offset]?=some (.int .i64 b)∧i64 a∧i64 b:=by
 obtain ⟨m,z,hz⟩:=fld ht h i f hf
 obtain ⟨a,ha,wa⟩:=fld_int hu hz 0 f0 h0 u0
 obtain ⟨b,hb,wb⟩:=fld_int hu hz 1 f1 h1 u1
 refine ⟨a,b,?_,?_,wa,wb⟩
 ·rw [List.getElem?_take] at ha
  split at ha
  ·rw [List.getElem?_drop] at ha; exact ha
  ·cases ha
 ·rw [List.getElem?_take] at hb
  split at hb
  ·rw [List.getElem?_drop] at hb; exact hb
  ·cases hb
theorem len_struct {t:TypeId} {fs:Array Field} {n:Nat} {cs:List Value} {y:DataW H × List MemPlace} (ht:P.underlying t=some (.struct fs)) (h:DataW.trod enc P w base spare held n t cs=some y):cs.length=P.cellsOf t:=by
 obtain ⟨xs,m,_,_,hl,_⟩:=DataW.trod_struct ht h
 exact hl
theorem slice_rows {α:Type} {t e:TypeId} {fuel k:Nat} {cs:List Value} {x:DataW H × List MemPlace} (cells:α→List Value) (Good:α→Prop) (ht:P.underlying t=some (.slice e)) (hC:P.cellsOf e=k) (hk:0 < k)
  (each:∀ n cs' y,DataW.trod enc P w base spare held n e cs'=some y→∃ r:α,cs'=cells r∧Good r) (h:DataW.trod enc P w base spare held fuel t cs=some x) :
  ∃ (v:Value) (rows:List α),cs=[v]∧ARd w v k (rows.map cells)∧∀ r∈rows,Good r:=by
 rcases open_slice ht h with ⟨hc,_⟩ | ⟨a,len,cap,m,n,D,Pl,hc,_,hlc,_,hm,_,hi⟩
 ·exact ⟨_,[],hc,⟨none,0,rfl,fun i h=>absurd h (Nat.not_lt_zero i)⟩,fun r h=>by cases h⟩
 ·rw [hC] at hi
  have hml:len≤m:=by rw [hm]; split <;> omega
  have pick:∀ i:Fin len,∃ r:α,w.cells? base (a.add (i.val * k)) k=some (cells r)∧Good r:=fun i=>by
   obtain ⟨cs',h1,h2⟩:=hi i.val (by omega)
   obtain ⟨r,hr,hg⟩:=each _ _ _ h2
   exact ⟨r,by rw [h1,hr],hg⟩
  obtain ⟨rows,hlen,hrow⟩:∃ rows:List α,rows.length=len∧∀ i (h:i < rows.length),w.cells? base (a.add (i * k)) k=some (cells rows[i])∧Good rows[i]:=by
   refine ⟨List.ofFn fun i:Fin len=>Classical.choose (pick i),by simp,fun i h=>?_⟩
   have hil:i < len:=by simpa using h
   simp only [List.getElem_ofFn]
   exact Classical.choose_spec (pick ⟨i,hil⟩)
  refine ⟨_,rows,hc,⟨some a,cap,by simp [hlen],fun i hi'=>?_⟩,fun r hr=>?_⟩
  ·have hil:i < rows.length:=by simpa using hi'
   obtain ⟨_,hl,hcell⟩:=World.cells?_some (hrow i hil).1
   obtain ⟨_,hl0,hcell0⟩:=World.cells?_some (hrow 0 (by omega)).1
   have h1:=hcell0 0 hk
   rw [Nat.zero_mul] at h1
   obtain ⟨u0,hu0⟩:∃ u,(cells rows[0])[0]?=some u:=⟨_,List.getElem?_eq_getElem (show 0 < (cells rows[0]).length by omega)⟩
   rw [hu0] at h1
   have h1:w.cell? a=some u0:=h1
   have hs:=spot_none h1
   refine ⟨a.block,a.off,by rw [← hs],cell_size h1,fun j u hj=>?_⟩
   rw [List.getElem_map] at hj
   have hjk:j < k:=by
    have:=(List.getElem?_eq_some_iff.1 hj).1
    omega
   have h2:=hcell j hjk
   rw [hs,add_at,add_at] at h2
   rw [h2]
   exact hj
  ·obtain ⟨i,hi',rfl⟩:=List.mem_iff_getElem.1 hr
   exact (hrow i hi').2
end
theorem list3 {cs:List Value} {a b c:Value} (hl:cs.length=3) (h0:cs[0]?=some a) (h1:cs[1]?=some b) (h2:cs[2]?=some c):cs=[a,b,c]:=by
 match cs,hl with
 | [_,_,_],_=>simp at h0 h1 h2; rw [h0,h1,h2]
theorem list4 {cs:List Value} {a b c d:Value} (hl:cs.length=4) (h0:cs[0]?=some a) (h1:cs[1]?=some b) (h2:cs[2]?=some c) (h3:cs[3]?=some d):cs=[a,b,c,d]:=by
 match cs,hl with
 | [_,_,_,_],_=>simp at h0 h1 h2 h3; rw [h0,h1,h2,h3]
theorem list5 {cs:List Value} {a b c d e:Value} (hl:cs.length=5) (h0:cs[0]?=some a) (h1:cs[1]?=some b) (h2:cs[2]?=some c) (h3:cs[3]?=some d) (h4:cs[4]?=some e):cs=[a,b,c,d,e]:=by
 match cs,hl with
 | [_,_,_,_,_],_=>simp at h0 h1 h2 h3 h4; rw [h0,h1,h2,h3,h4]
theorem list6 {cs:List Value} {a b c d e f:Value} (hl:cs.length=6) (h0:cs[0]?=some a) (h1:cs[1]?=some b) (h2:cs[2]?=some c) (h3:cs[3]?=some d) (h4:cs[4]?=some e) (h5:cs[5]?=some f):cs=[a,b,c,d,e,f]:=by
 match cs,hl with
 | [_,_,_,_,_,_],_=>simp at h0 h1 h2 h3 h4 h5; rw [h0,h1,h2,h3,h4,h5]
section
variable {H : Type} {enc : TypeId × Value → H} {W : World} {base : Nat} {spare : Nat → Bool} {held : Bool}
theorem cO_dv:Tryz.prog.cellsOf 84=3:=by kernel_rfl
theorem cO_rk:Tryz.prog.cellsOf 107=6:=by kernel_rfl
theorem cO_st:Tryz.prog.cellsOf 151=5:=by kernel_rfl
theorem cO_pt:Tryz.prog.cellsOf 148=4:=by kernel_rfl
theorem cO_cp:Tryz.prog.cellsOf 153=6:=by kernel_rfl
theorem dv_open (n:Nat) (cs:List Value) (y:DataW H × List MemPlace) (h:DataW.trod enc Tryz.prog W base spare held n 84 cs=some y):∃ d:Dv,cs=dvC d∧i64 d.lo∧i64 d.hi:=by
 have hl:=(len_struct Tryz.underlying84 h).trans cO_dv
 obtain ⟨a,ha⟩:=fld_string Tryz.underlying84 h 0 _ rfl Tryz.underlying9
 obtain ⟨b,hb,wb⟩:=fld_int Tryz.underlying84 h 1 _ rfl Tryz.underlying3
 obtain ⟨c,hc,wc⟩:=fld_int Tryz.underlying84 h 2 _ rfl Tryz.underlying3
 exact ⟨⟨a,b,c⟩,list3 hl ha hb hc,wb,wc⟩
theorem pt_open (n:Nat) (cs:List Value) (y:DataW H × List MemPlace) (h:DataW.trod enc Tryz.prog W base spare held n 148 cs=some y):∃ p:Pt,cs=ptC p∧i64 p.rank∧i64 p.shift∧i64 p.lo∧i64 p.hi:=by
 have hl:=(len_struct Tryz.underlying148 h).trans cO_pt
 obtain ⟨a,ha,wa⟩:=fld_int Tryz.underlying148 h 0 _ rfl Tryz.underlying3
 obtain ⟨b,hb,wb⟩:=fld_int Tryz.underlying148 h 1 _ rfl Tryz.underlying3
 obtain ⟨c,hc,wc⟩:=fld_int Tryz.underlying148 h 2 _ rfl Tryz.underlying3
 obtain ⟨d,hd,wd⟩:=fld_int Tryz.underlying148 h 3 _ rfl Tryz.underlying3
 exact ⟨⟨a,b,c,d⟩,list4 hl ha hb hc hd,wa,wb,wc,wd⟩
theorem rk_open (n:Nat) (cs:List Value) (y:DataW H × List MemPlace) (h:DataW.trod enc Tryz.prog W base spare held n 107 cs=some y):∃ r:Rk,cs=rkC r∧i64 r.kind∧i64 r.num∧i64 r.den∧i64 r.low∧i64 r.cnt:=by
 have hl:=(len_struct Tryz.underlying107 h).trans cO_rk
 obtain ⟨a,ha⟩:=fld_string Tryz.underlying107 h 0 _ rfl Tryz.underlying9
 obtain ⟨b,hb,wb⟩:=fld_int Tryz.underlying107 h 1 _ rfl Tryz.underlying3
 obtain ⟨c,d,hc,hd,wc,wd⟩:=fld_two Tryz.underlying107 h 2 _ _ _ rfl Tryz.underlying105 rfl rfl Tryz.underlying3 Tryz.underlying3
 obtain ⟨e,he,we⟩:=fld_int Tryz.underlying107 h 3 _ rfl Tryz.underlying3
 obtain ⟨f,hf,wf⟩:=fld_int Tryz.underlying107 h 4 _ rfl Tryz.underlying3
 exact ⟨⟨a,b,c,d,e,f⟩,list6 hl ha hb hc hd he hf,wb,wc,wd,we,wf⟩
theorem cp_open (n:Nat) (cs:List Value) (y:DataW H × List MemPlace) (h:DataW.trod enc Tryz.prog W base spare held n 153 cs=some y):∃ r:Cp,cs=cpC r∧i64 r.frm∧i64 r.to∧i64 r.shift∧i64 r.only:=by
 have hl:=(len_struct Tryz.underlying153 h).trans cO_cp
 obtain ⟨a,ha⟩:=fld_string Tryz.underlying153 h 0 _ rfl Tryz.underlying9
 obtain ⟨b,hb,wb⟩:=fld_int Tryz.underlying153 h 1 _ rfl Tryz.underlying3
 obtain ⟨c,hc,wc⟩:=fld_int Tryz.underlying153 h 2 _ rfl Tryz.underlying3
 obtain ⟨d,hd,wd⟩:=fld_int Tryz.underlying153 h 3 _ rfl Tryz.underlying3
 obtain ⟨e,he,we⟩:=fld_int Tryz.underlying153 h 4 _ rfl Tryz.underlying3
 obtain ⟨f,hf⟩:=fld_bool Tryz.underlying153 h 5 _ rfl Tryz.underlying4
 exact ⟨⟨a,b,c,d,e,f⟩,list6 hl ha hb hc hd he hf,wb,wc,wd,we⟩
theorem st_open (n:Nat) (cs:List Value) (y:DataW H × List MemPlace) (h:DataW.trod enc Tryz.prog W base spare held n 151 cs=some y) :
  ∃ r:St × Value,cs=stC r.1 r.2∧i64 r.1.div∧i64 r.1.num∧i64 r.1.den∧ARd W r.2 4 (r.1.parts.map ptC)∧∀ p∈r.1.parts,i64 p.rank∧i64 p.shift∧i64 p.lo∧i64 p.hi:=by
 have hl:=(len_struct Tryz.underlying151 h).trans cO_st
 obtain ⟨a,ha⟩:=fld_string Tryz.underlying151 h 0 _ rfl Tryz.underlying9
 obtain ⟨b,hb,wb⟩:=fld_int Tryz.underlying151 h 1 _ rfl Tryz.underlying3
 obtain ⟨c,d,hc,hd,wc,wd⟩:=fld_two Tryz.underlying151 h 2 _ _ _ rfl Tryz.underlying105 rfl rfl Tryz.underlying3 Tryz.underlying3
 obtain ⟨m,z,hz⟩:=fld Tryz.underlying151 h 3 _ rfl
 obtain ⟨v,ps,hv,hps,hg⟩:=slice_rows ptC (fun p=>i64 p.rank∧i64 p.shift∧i64 p.lo∧i64 p.hi) Tryz.underlying149 cO_pt (by omega) pt_open hz
 have h4:cs[4]?=some v:=by
  have h0:=congrArg (fun l=>l[0]?) hv
  simp only [List.getElem?_take] at h0
  split at h0
  ·rw [List.getElem?_drop] at h0; exact h0
  ·cases h0
 exact ⟨(⟨a,b,c,d,ps⟩,v),list5 hl ha hb hc hd h4,wb,wc,wd,hps,hg⟩
set_option maxRecDepth 100000 in
theorem spec_open {b0:Nat} {r:Reach} {v:Value} {d:DataW H} {p:List MemPlace} (hv:Value.okWide Tryz.prog W r b0 27 v) (h:DataW.Trod enc Tryz.prog W base spare held 27 v d p) :
  ∃ (v1 v2 v3 v4:Value) (S:Sp) (f:Nat→Value),v = .agg #[v1,v2,v3,v4]∧SpRd W v1 v2 v3 v4 f S∧SpInt S:=by
 obtain ⟨v1,v2,v3,v4,y1,y2,y3,y4,n,rfl,_,_,e1,e2,e3,e4⟩:=Go.Joins.open_agg4 Tryz.underlying27 (by kernel_rfl) (by kernel_rfl) hv h
 obtain ⟨u1,ds,h1,r1,g1⟩:=slice_rows dvC (fun d=>i64 d.lo∧i64 d.hi) Tryz.underlying22 cO_dv (by omega) dv_open e1
 obtain ⟨u2,rs,h2,r2,g2⟩:=slice_rows rkC (fun r=>i64 r.kind∧i64 r.num∧i64 r.den∧i64 r.low∧i64 r.cnt) Tryz.underlying23 cO_rk (by omega) rk_open e2
 obtain ⟨u3,ss,h3,r3,g3⟩:=slice_rows (fun r:St × Value=>stC r.1 r.2) (fun r=>i64 r.1.div∧i64 r.1.num∧i64 r.1.den∧ARd W r.2 4 (r.1.parts.map ptC)∧∀ p∈r.1.parts,i64 p.rank∧i64 p.shift∧i64 p.lo∧i64 p.hi) Tryz.underlying24 cO_st (by omega) st_open e3
 obtain ⟨u4,cps,h4,r4,g4⟩:=slice_rows cpC (fun r=>i64 r.frm∧i64 r.to∧i64 r.shift∧i64 r.only) Tryz.underlying25 cO_cp (by omega) cp_open e4
 obtain rfl:v1=u1:=by simpa using h1
 obtain rfl:v2=u2:=by simpa using h2
 obtain rfl:v3=u3:=by simpa using h3
 obtain rfl:v4=u4:=by simpa using h4
 refine ⟨v1,v2,v3,v4,⟨ds,rs,ss.map (fun r=>r.1),cps⟩,fun i=>(ss.map (fun r=>r.2)).getD i (.int .i64 0),rfl,⟨r1,r2,?_,r4,?_⟩,?_⟩
 ·have e:((ss.map (fun r:St × Value=>r.1)).mapIdx fun i x=>stC x ((ss.map (fun r:St × Value=>r.2)).getD i (.int .i64 0)))=ss.map fun r=>stC r.1 r.2:=by
   apply List.ext_getElem
   ·simp
   ·intro i h1 h2
    have hi:i < ss.length:=by simpa using h2
    simp [hi]
  show ARd W v3 5 ((ss.map (fun r:St × Value=>r.1)).mapIdx _)
  rw [e]
  exact r3
 ·intro i hi
  have hi':i < ss.length:=by simpa using hi
  have hg:=(g3 ss[i] (List.getElem_mem hi')).2.2.2.1
  have e1:((ss.map (fun r:St × Value=>r.2)).getD i (.int .i64 0))=ss[i].2:=by simp [hi']
  have e2:(ss.map (fun r:St × Value=>r.1))[i]'hi=ss[i].1:=by simp
  show ARd W ((ss.map (fun r:St × Value=>r.2)).getD i (.int .i64 0)) 4 (((ss.map (fun r:St × Value=>r.1))[i]'hi).parts.map ptC)
  rw [e1,e2]
  exact hg
 ·refine ⟨g1,g2,fun x hx=>?_,fun x hx p hp=>?_,g4⟩
  ·obtain ⟨r,hr,rfl⟩:=List.mem_map.1 hx
   exact ⟨(g3 r hr).1,(g3 r hr).2.1,(g3 r hr).2.2.1⟩
  ·obtain ⟨r,hr,rfl⟩:=List.mem_map.1 hx
   exact (g3 r hr).2.2.2.2 p hp
end
end Go.Proofs.YthhfmppealmblaaGreatDoor
namespace Go.Proofs.YthhfmppealmblaaGreatDoor
open Go.ChangeShapes Go.WideShapes Go.ChangeAt Go.ChangeMaps Go.RowKit
theorem own:ownKnob Tryz.prog.godebug=none:=by kernel_rfl
theorem lays:laidOutB Tryz.prog=true:=by kernel_rfl
theorem gPow:Tryz.prog.globalNamed "internal/strconv.uint64pow10"=some 0:=by kernel_rfl
theorem yPow:(Tryz.prog.globals[0]?).map (·.type)=some 281:=by kernel_rfl
theorem cPow:Tryz.prog.cellsOf 281=20:=by kernel_rfl
theorem cPow1:Tryz.prog.cellsOf 229=1:=by kernel_rfl
def listT:List (String × DataW Unit):=Rows.auditClaimsRow.laid
theorem tabsT {W:World} (h:laidMetH Tryz.prog listT W):Tabs W where
 pow:=by
  rw [MakeChecks.laidMetH_plain _ _ _ (by kernel_rfl)] at h
  exact Lib.tabIs_of_head gPow yPow Tryz.underlying281 Tryz.underlying229 cPow1 cPow (h.tail.tail)
noncomputable def laidWorld (os:Os):World:=World.doorLaid Tryz.prog 80 os
theorem metT (os:Os) (args:Array Value):laidMet Tryz.prog listT ((laidWorld os).forCall (fun _ _=>0) ⟨#[],args,[]⟩).memory :=
 laidMet_of_run' 8 (by kernel_rfl) (by kernel_rfl)
theorem hasO (os:Os) (args:Array Value):((laidWorld os).forCall (fun _ _=>0) ⟨#[],args,[]⟩).variablesRefB Tryz.prog=true:=by kernel_rfl
theorem restT (os:Os) (args:Array Value):((((laidWorld os).forCall (fun _ _=>0) ⟨#[],args,[]⟩).heap.toList.drop Tryz.prog.globals.size).take ((begin Tryz.prog (fun _ _=>0) default).world.heap.size - Tryz.prog.globals.size)) =
  (begin Tryz.prog (fun _ _=>0) default).world.heap.toList.drop Tryz.prog.globals.size:=by kernel_rfl
end Go.Proofs.YthhfmppealmblaaGreatDoor
namespace Go.Proofs.YthhfmppealmblaaGreatDoor
open Go.ChangeShapes Go.WideShapes Go.ChangeAt Go.ChangeMaps Go.RowKit
section
variable {H : Type} {enc : TypeId × Value → H} {W : World} {base : Nat} {spare : Nat → Bool} {held : Bool}
theorem cP_ev:Tryz.prog.cellsOf 42=5:=by kernel_rfl
theorem ev_open (n:Nat) (cs:List Value) (y:DataW H × List MemPlace) (h:DataW.trod enc Tryz.prog W base spare held n 42 cs=some y):∃ x:Ev,cs=evC x∧True:=by
 have hl:=(len_struct Tryz.underlying42 h).trans cP_ev
 obtain ⟨a,ha,_⟩:=fld_int Tryz.underlying42 h 0 _ rfl Tryz.underlying2
 obtain ⟨b,hb,_⟩:=fld_int Tryz.underlying42 h 1 _ rfl Tryz.underlying3
 obtain ⟨c,hc,_⟩:=fld_int Tryz.underlying42 h 2 _ rfl Tryz.underlying3
 obtain ⟨d,hd,_⟩:=fld_int Tryz.underlying42 h 3 _ rfl Tryz.underlying3
 obtain ⟨e,he,_⟩:=fld_int Tryz.underlying42 h 4 _ rfl Tryz.underlying3
 exact ⟨(a,b,c,d,e),list5 hl ha hb hc hd he,trivial⟩
set_option maxRecDepth 100000 in
theorem rec_open {b0:Nat} {r:Reach} {v:Value} {d:DataW H} {p:List MemPlace} (hv:Value.okWide Tryz.prog W r b0 28 v) (h:DataW.Trod enc Tryz.prog W base spare held 28 v d p) :
  ∃ l:List Ev,ARd W v 5 (l.map evC):=by
 obtain ⟨a0,l0,c0,rfl⟩:=okWide_slice Tryz.underlying28 hv
 obtain ⟨fuel,hf⟩:=h
 obtain ⟨v',l,hc,hr,_⟩:=slice_rows evC (fun _=>True) Tryz.underlying28 cP_ev (by omega) ev_open hf
 simp only [Value.cells,List.cons.injEq,and_true] at hc
 exact ⟨l,by rw [hc]; exact hr⟩
end
end Go.Proofs.YthhfmppealmblaaGreatDoor
