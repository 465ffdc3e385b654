/-
  A part of the proof: L23, OpenS, Open, OpenA.
-/
import Derived.Test.YthhfmppealmblaaGreatDoorY19
import Derived.Test.YthhfmppealmblaaGreatDoorY21
import Derived.Test.YthhfmppealmblaaGreatDoorY20
import Derived.Test.YthhfmppealmblaaGreatDoorY18
import Derived.Test.YthhfmppealmblaaGreatDoorQ02
import Derived.Deep.Slices
import Derived.Deep.Fields
import Derived.ChangeSame
import Derived.ChangeArms
import Derived.OpenShut
import Derived.Lib.SmallJoins
import Derived.Test.YthhfmppealmblaaGreatDoorCards
import Derived.Test.YthhfmppealmblaaGreatDoorTie
import Derived.Test.YthhfmppealmblaaGreatDoorQ01
import Derived.WalkKit
import Derived.ProofKit
import Derived.Deep.DeepHandedRow
import Derived.Deep.DeepWitnessRowRef
import Derived.Lib.LaidTab
import Derived.LaidMore
import Derived.ShutString
import Derived.Stop.LaidErr
import Derived.MakeChecks
import Derived.Test.YthhfmppealmblaaGreatDoorY03
namespace Go.Proofs.YthhfmppealmblaaGreatDoor
open Go.RowKit
theorem run_neWe (a b c d:Int) (w:World):(binOp .neq 64 (.agg #[.int .i64 a,.int .i64 b,.int .i64 c,.int .i64 d]) (.agg #[.int .i64 a,.int .i64 b,.int .i64 c,.int .i64 d])).run Tryz.prog w = .ok (.bool false) w:=by
 rw [run_neq_struct]
 rw [run_equalIn_agg w 9999 64 _ _ (by kernel_rfl) (by kernel_rfl)]
 simp only [Program.fieldsOf,Tryz.underlying64]
 simp [go_sem,Tryz.underlying3,Tryz.underlying2,part]
theorem ARd.of_wes {W:World} {base:Nat} {t:TypeId} {v:Value} {l:List We} (h:W.ownsRow base t 4 v l.length (weCs l)):ARd W v 4 (l.map weC) :=
 ARd.of_row (by intro r hr;obtain ⟨x,_,rfl⟩:=List.mem_map.1 hr;rfl) (by rw [List.length_map];exact h)
theorem ARd.weAt {w:World} {v:Value} {l:List We} (h:ARd w v 4 (l.map weC)) (i:Nat) (hi:i<l.length):∃ b o c,v = .slice (some ⟨b,o,none⟩) l.length c∧b<w.heap.size∧w.cell? ⟨b,o+i * 4,none⟩=some (.int .i64 l[i].1.1)∧w.cell? ⟨b,o+i * 4+1,none⟩=some (.int .i64 l[i].1.2)∧w.cell? ⟨b,o+i * 4+2,none⟩=some (.int .i64 l[i].2.1)∧w.cell? ⟨b,o+i * 4+3,none⟩=some (.int .i64 l[i].2.2):=by
 obtain ⟨b,o,c,e,hlt,hc⟩:=h.at i (by simpa using hi)
 rw [List.getElem_map] at hc
 rw [List.length_map] at e
 exact ⟨b,o,c,e,hlt,hc 0 _ rfl,hc 1 _ rfl,hc 2 _ rfl,hc 3 _ rfl⟩
theorem ard_nil (W:World) (k:Nat):ARd W (.slice none 0 0) k []:=⟨none,0,rfl,fun i hi=>absurd hi (Nat.not_lt_zero i)⟩
theorem ends_hd (S:Sp) (l:List Ev):∃ (S':Sp) (f':Th→Int),S'.ds.length≤6∧S'.ss.length≤1000∧S'.cs.length≤1000∧∀ (W:World) (vk vs vc:Value),(audE S l=0→HdRd W vk vs vc S (onV l))→(audE S l≠0→vk = .slice none 0 0∧vs = .slice none 0 0∧vc = .slice none 0 0)→HdRd W vk vs vc S' f':=by
 by_cases hE:audE S l=0
 ·obtain ⟨hck,_⟩:=audE_parts hE
  have g:=spGood hck
  exact ⟨S,onV l,by have:=g.ds;omega,by have:=g.ss;omega,by have:=g.cs;omega,fun W vk vs vc h _=>h hE⟩
 ·refine ⟨{ ds:=[],rs:=[],ss:=[],cs:=[] },onV l,Nat.zero_le _,Nat.zero_le _,Nat.zero_le _,fun W vk vs vc _ h=>?_⟩
  obtain ⟨rfl,rfl,rfl⟩:=h hE
  exact ⟨⟨fun _ => .slice none 0 0,ard_nil W 1,fun d hd=>absurd hd (Nat.not_lt_zero d)⟩,ard_nil W 1,ard_nil W 1⟩
theorem wearV_few (S:Sp) (B:(Th→Int)→Pp→Bool) (l:List Ev):(wearV S B l).length≤100000:=by
 by_cases hE:audE S l=0
 ·obtain ⟨hck,_⟩:=audE_parts hE
  have g:=spGood hck
  unfold wearV wearL
  rw [if_pos hE,List.length_map]
  have h1:=List.length_filter_le (fun p=>decide (0<wrN B l p)) (allFrom 0 S.rs)
  have h2:=allFrom_len g.r 0
  have h3:=g.rs
  omega
 ·rw [wearV_ne S B hE]
  exact Nat.zero_le _
set_option maxRecDepth 100000 in
set_option maxHeartbeats 12800000 in
theorem auditWears_walk (v1 v2 v3 v4:Value) (S:Sp) (l:List Ev) (vl:Value) (w:World) (t:Tabs w) (f:Nat→Value) (hsp:SpRd w v1 v2 v3 v4 f S) (hlv:ARd w vl 5 (l.map evC)) :
  Calls Tryz.prog 8 #[.agg #[v1,v2,v3,v4],vl] w (BoR true w):=by
 obtain ⟨B,hB⟩:=sndIs_ex S
 obtain ⟨al,cl,evl⟩:=hlv.evForm
 subst evl
 have hal:=(Below.refl _ w).alloc (Nat.le_refl w.heap.size) (.cells #[v1,v2,v3,v4] 27)
 have hk:=Blk.new w 27 #[v1,v2,v3,v4]
 have HGR:=Lib.hid (great_any v1 v2 v3 v4 S f l (.slice al l.length cl) _ (hsp.later hal) (hlv.later hal))
 have HAW:=Lib.hid (fun (W:World) (hb:Below w.heap.size w W)=>awake_any W (t.below hb))
 have HT:=Lib.hid t
 have HAL:=Lib.hid hal
 have HK:=Lib.hid hk
 have HSP:=Lib.hid hsp
 have HLV:=Lib.hid hlv
 have HSB:=Lib.hid hB
 obtain ⟨s0,s1,s2,s3⟩:=hk.four
 clear t hal hk hsp hlv hB
 go_enter Tryz.func8,Tryz.ntmps8
 go_wp2_with fail
 refine (HGR.out).mono ?_
 rintro e W ⟨b,rfl,hb0,hb⟩
 have HB1:=Lib.hid (below_step HAL.out hb)
 have HK1:=Lib.hid (HK.out.below hb)
 clear hb HGR HAL HK s0 s1 s2 s3
 cases b with
 | true =>
  clear hb0
  go_wp2_with fail
  refine (HAW.out _ HB1.out).mono ?_
  rintro e W9 ⟨rfl,hb9⟩
  have HB9:=Lib.hid (below_step HB1.out hb9)
  clear hb9
  go_wp2
  go_ret
  exact ⟨rfl,HB9.out⟩
 | false =>
 have HSM:=Lib.hid (hb0 rfl)
 clear hb0
 have hl50:l.length≤50000:=by have:=HSM.out.len;omega
 have HWA:=Lib.hid (awear_any v1 v2 v3 v4 S HSM.out.ok f l (.slice al l.length cl) B HSB.out W (HT.out.below HB1.out) (HSP.out.later HB1.out) (HLV.out.later HB1.out) hl50)
 obtain ⟨u0,u1,u2,u3⟩:=HK1.out.four
 go_wp2_with fail
 refine (HWA.out).mono ?_
 rintro e W2 ⟨va,rfl,hra,hb⟩
 have HB2:=Lib.hid (below_step HB1.out hb)
 have HK2:=Lib.hid (HK1.out.below hb)
 have HRA:=Lib.hid (ARd.of_wes hra)
 obtain ⟨aa,ca,eva⟩:=row_formN hra
 subst eva
 clear hra hb HWA HB1 HK1 u0 u1 u2 u3
 have HWB:=Lib.hid (rwear_any v1 v2 v3 v4 S HSM.out.ok f l (.slice al l.length cl) B HSB.out W2 (HSP.out.later HB2.out) (HLV.out.later HB2.out) hl50)
 obtain ⟨u0,u1,u2,u3⟩:=HK2.out.four
 obtain ⟨e0,he0⟩:∃ e0,audE S l=e0:=⟨_,rfl⟩
 have HE0:=Lib.hid he0
 clear he0
 go_wp2_with fail
 refine (HWB.out).mono ?_
 rintro e W3 ⟨vb,rfl,hrb,hb⟩
 have HB3:=Lib.hid (below_step HB2.out hb)
 have HK3:=Lib.hid (HK2.out.below hb)
 have HRA3:=Lib.hid (HRA.out.later hb)
 have HRB:=Lib.hid (ARd.of_wes hrb)
 obtain ⟨ab,cb,evb⟩:=row_formN hrb
 subst evb
 clear hrb hb HWB HB2 HK2 HRA u0 u1 u2 u3
 have hwl:=wearV_few S B l
 obtain ⟨R,hR⟩:∃ R,wearV S B l=R:=⟨_,rfl⟩
 rw [hR] at hwl HRA3 HRB ⊢
 rw [HE0.out]
 clear hR
 have HL0:=Lib.hid (Below.refl W3.heap.size W3)
 go_wp2
 go_loopw [9] (fun x wr=>∃ i:Nat,i≤R.length∧x = .int .i64 i∧RowKit.Hid (Below W3.heap.size W3 wr)) (fun x _=>R.length-(intOf x).toNat)
 case atStart=>exact ⟨0,Nat.zero_le _,rfl,HL0⟩
 clear HL0
 obtain ⟨i,hi,rfl,hW⟩:=hrel
 by_cases hil:i<R.length
 ·have hi2:(i:Int)<(R.length:Int):=by omega
  obtain ⟨b,o,c',ev,hbl,k0,k1,k2,k3⟩:=(HRA3.out.later hW.out).weAt i hil
  cases ev
  obtain ⟨b2,o2,c2',ev2,hbl2,m0,m1,m2,m3⟩:=(HRB.out.later hW.out).weAt i hil
  cases ev2
  obtain ⟨x,hx⟩:∃ x,R[i]=x:=⟨_,rfl⟩
  rw [hx] at k0 k1 k2 k3 m0 m1 m2 m3
  obtain ⟨⟨x0,x1⟩,x2,x3⟩:=x
  dsimp only at k0 k1 k2 k3 m0 m1 m2 m3
  have hne:=fun W=>run_neWe x0 x1 x2 x3 W
  clear hx hbl hbl2
  go_upto_region 10 with fail
  go_quiet (fail)
  have HW9:=Lib.hid (below_drewN hW.out nq)
  go_wp2
  go_roundw
  case rel=>exact ⟨i+1,by omega,by go_num,HW9⟩
  case measure=>simp [intOf];omega
 have hi2:¬ (i:Int)<(R.length:Int):=by omega
 have HB4:=Lib.hid (below_step HB3.out hW.out)
 have HK4:=Lib.hid (HK3.out.below hW.out)
 clear hW hi HB3 HK3 HRA3 HRB
 rename World=>W4
 have HPA:=Lib.hid (peak_any v1 v2 v3 v4 S HSM.out.ok f l (.slice al l.length cl) B HSB.out W4 (HT.out.below HB4.out) (HSP.out.later HB4.out) (HLV.out.later HB4.out) (by omega))
 have HPB:=Lib.hid (fun (W5:World) (hb:Below w.heap.size w W5)=>peak34_any v1 v2 v3 v4 S HSM.out.ok f l (.slice al l.length cl) B HSB.out W5 (HSP.out.later hb) (HLV.out.later hb) hl50)
 have HNA:=Lib.hid (fun (W5:World) (hb:Below w.heap.size w W5)=>aends_any v1 v2 v3 v4 S HSM.out.ok f l (.slice al l.length cl) W5 (HT.out.below hb) (HSP.out.later hb) (HLV.out.later hb) hl50)
 have HNB:=Lib.hid (fun (W5:World) (hb:Below w.heap.size w W5)=>ends34_any v1 v2 v3 v4 S HSM.out.ok f l (.slice al l.length cl) W5 (HSP.out.later hb) (HLV.out.later hb) hl50)
 obtain ⟨S',f',hd',hs',hc',hhd⟩:=ends_hd S l
 have HHD:=Lib.hid hhd
 clear hhd
 obtain ⟨u0,u1,u2,u3⟩:=HK4.out.four
 go_wp2_with fail
 refine (HPA.out).mono ?_
 rintro e W5 ⟨rfl,hb⟩
 have HB5:=Lib.hid (below_step HB4.out hb)
 have HK5:=Lib.hid (HK4.out.below hb)
 clear hb HPA HB4 HK4 u0 u1 u2 u3
 obtain ⟨u0,u1,u2,u3⟩:=HK5.out.four
 rw [HE0.out]
 obtain ⟨p1,hp1⟩:∃ z,(pkV S B l).1=z:=⟨_,rfl⟩
 obtain ⟨p2,hp2⟩:∃ z,(pkV S B l).2=z:=⟨_,rfl⟩
 rw [hp1,hp2]
 have HP1:=Lib.hid hp1
 have HP2:=Lib.hid hp2
 clear hp1 hp2
 go_wp2_with fail
 refine (HPB.out _ HB5.out).mono ?_
 rintro e W6 ⟨rfl,hb⟩
 rw [HE0.out,HP1.out,HP2.out]
 have HB6:=Lib.hid (below_step HB5.out hb)
 have HK6:=Lib.hid (HK5.out.below hb)
 clear hb HPB HB5 HK5 u0 u1 u2 u3
 obtain ⟨u0,u1,u2,u3⟩:=HK6.out.four
 go_wp2_with fail
 refine (HNA.out _ HB6.out).mono ?_
 rintro e W7 ⟨vk,vs,vc,rfl,h1,h2,hb⟩
 have hh:=HHD.out _ _ _ _ h1 h2
 rw [HE0.out]
 obtain ⟨⟨a1,c1,rfl⟩,⟨a2,c2,rfl⟩,⟨a3,c3,rfl⟩⟩:=hh.forms
 have hb7:=below_step HB6.out hb
 have hk7:=HK6.out.below hb
 have hal:=(Below.refl _ W7).alloc (Nat.le_refl _) (.cells #[.slice a1 S'.ds.length c1,.slice a2 (onL f' 2 S'.ss.length).length c2,.slice a3 (onL f' 3 S'.cs.length).length c3] 70)
 have HB7:=Lib.hid (below_step hb7 hal)
 have HK7:=Lib.hid (hk7.below hal)
 have HH7:=Lib.hid (hh.later hal)
 have HX7:=Lib.hid (Blk.new W7 70 #[.slice a1 S'.ds.length c1,.slice a2 (onL f' 2 S'.ss.length).length c2,.slice a3 (onL f' 3 S'.cs.length).length c3])
 clear hb h1 h2 hh hb7 hk7 hal HNA HB6 HK6 u0 u1 u2 u3
 go_upto_region 15 with fail
 obtain ⟨X,hX⟩:∃ X,W7.heap.size=X:=⟨_,rfl⟩
 rw [hX] at HX7 ⊢
 generalize W7.alloc (.cells #[.slice a1 S'.ds.length c1,.slice a2 (onL f' 2 S'.ss.length).length c2,.slice a3 (onL f' 3 S'.cs.length).length c3] 70)=W8 at *
 clear hX
 obtain ⟨u0,u1,u2,u3⟩:=HK7.out.four
 go_wp2_with fail
 refine (HNB.out _ HB7.out).mono ?_
 rintro e W9 ⟨vk,vs,vc,rfl,h1,h2,hb⟩
 have hh:=HHD.out _ _ _ _ h1 h2
 rw [HE0.out]
 obtain ⟨⟨b1,d1,rfl⟩,⟨b2,d2,rfl⟩,⟨b3,d3,rfl⟩⟩:=hh.forms
 have hb9:=below_step HB7.out hb
 have hx9:=HX7.out.below hb
 have hh9:=HH7.out.later hb
 have hal:=(Below.refl _ W9).alloc (Nat.le_refl _) (.cells #[.slice b1 S'.ds.length d1,.slice b2 (onL f' 2 S'.ss.length).length d2,.slice b3 (onL f' 3 S'.cs.length).length d3] 70)
 have HB9:=Lib.hid (below_step hb9 hal)
 have HH9:=Lib.hid (hh9.later hal)
 have HG9:=Lib.hid (hh.later hal)
 have HX9:=Lib.hid (hx9.below hal)
 have HY9:=Lib.hid (Blk.new W9 70 #[.slice b1 S'.ds.length d1,.slice b2 (onL f' 2 S'.ss.length).length d2,.slice b3 (onL f' 3 S'.cs.length).length d3])
 clear hb h1 h2 hh hb9 hx9 hh9 hal HNB HB7 HK7 HH7 HX7 u0 u1 u2 u3
 go_upto_region 16 with fail
 obtain ⟨Y,hY⟩:∃ Y,W9.heap.size=Y:=⟨_,rfl⟩
 rw [hY] at HY9 ⊢
 generalize W9.alloc (.cells #[.slice b1 S'.ds.length d1,.slice b2 (onL f' 2 S'.ss.length).length d2,.slice b3 (onL f' 3 S'.cs.length).length d3] 70)=WA at *
 clear hY
 have HSH:=Lib.hid (same_hand hd' f' hs' hc' _ _ _ _ _ _ WA HH9.out HG9.out)
 have x0:=HX9.out.cell 0
 have x1:=HX9.out.cell 1
 have x2:=HX9.out.cell 2
 have y0:=HY9.out.cell 0
 have y1:=HY9.out.cell 1
 have y2:=HY9.out.cell 2
 simp only [List.getElem?_toArray,List.getElem?_cons_zero,List.getElem?_cons_succ] at x0 x1 x2 y0 y1 y2
 go_wp2_with fail
 refine (HSH.out).mono ?_
 rintro e WB ⟨rfl,hb⟩
 have HBB:=Lib.hid (below_step HB9.out hb)
 clear hb HSH x0 x1 x2 y0 y1 y2
 go_wp2_with fail
 refine (HAW.out _ HBB.out).mono ?_
 rintro e WC ⟨rfl,hb⟩
 have HBC:=Lib.hid (below_step HBB.out hb)
 clear hb
 go_wp2
 go_ret
 exact ⟨rfl,HBC.out⟩
end Go.Proofs.YthhfmppealmblaaGreatDoor
namespace Go.Proofs.YthhfmppealmblaaGreatDoor
open Go.ChangeShapes Go.WideShapes Go.RowKit Go.Deep
theorem spot_none {w:World} {a:Addr} {v:Value} (h:w.cell? a=some v):a=⟨a.block,a.off,none⟩:=by
 obtain ⟨b,o,s⟩:=a
 cases s with
 | none=>rfl
 | some x =>
  unfold World.cell? at h
  split at h
  ·simp at h
  ·cases h
theorem add_at (b o n:Nat):(⟨b,o,none⟩:Addr).add n=⟨b,o+n,none⟩:=by
 unfold Addr.add
 split
 ·next h=>subst h;rfl
 ·rfl
theorem wf_i64 {a:Int} (h:(Lit.int .i64 a).wf=true):i64 a:=by
 have h2:IntKind.i64.min≤a∧a≤IntKind.i64.max:=by simpa only [Lit.wf,Bool.and_eq_true,decide_eq_true_eq] using h
 have e1:IntKind.i64.min = -9223372036854775808:=rfl
 have e2:IntKind.i64.max=9223372036854775807:=rfl
 unfold i64
 omega
section
variable {H : Type} {enc : TypeId × Value → H} {P : Program} {w : World} {base : Nat} {spare : Nat → Bool} {held : Bool}
theorem fld {t:TypeId} {fs:Array Field} {n:Nat} {cs:List Value} {y:DataW H × List MemPlace} (ht:P.underlying t=some (.struct fs)) (h:DataW.trod enc P w base spare held n t cs=some y) (i:Nat) (f:Field) (hf:fs[i]?=some f) :
  ∃ (m:Nat) (z:DataW H × List MemPlace),DataW.trod enc P w base spare held m f.type ((cs.drop f.offset).take (P.cellsOf f.type))=some z:=by
 obtain ⟨xs,m,_,_,_,hl,hx⟩:=DataW.trod_struct ht h
 have hi:=(Array.getElem?_eq_some_iff.1 hf).1
 exact ⟨m,_,(hx i f hf).trans (List.getElem?_eq_getElem (by omega))⟩
theorem fld_int {t:TypeId} {fs:Array Field} {n:Nat} {cs:List Value} {y:DataW H × List MemPlace} (ht:P.underlying t=some (.struct fs)) (h:DataW.trod enc P w base spare held n t cs=some y) (i:Nat) (f:Field) (hf:fs[i]?=some f)
  (hu:P.underlying f.type=some (.int .i64)):∃ z:Int,cs[f.offset]?=some (.int .i64 z)∧i64 z:=by
 obtain ⟨m,z,hz⟩:=fld ht h i f hf
 obtain ⟨k,hk,_,hw⟩:=DataW.trod_int hu hz
 refine ⟨k,?_,wf_i64 hw⟩
 have h0:((cs.drop f.offset).take (P.cellsOf f.type))[0]?=some (.int .i64 k):=by rw [hk];rfl
 rw [List.getElem?_take] at h0
 split at h0
 ·rw [List.getElem?_drop,Nat.add_zero] at h0;exact h0
 ·cases h0
theorem fld_string {t:TypeId} {fs:Array Field} {n:Nat} {cs:List Value} {y:DataW H × List MemPlace} (ht:P.underlying t=some (.struct fs)) (h:DataW.trod enc P w base spare held n t cs=some y) (i:Nat) (f:Field) (hf:fs[i]?=some f)
  (hu:P.underlying f.type=some .string):∃ z:ByteArray,cs[f.offset]?=some (.string z):=by
 obtain ⟨m,z,hz⟩:=fld ht h i f hf
 obtain ⟨k,hk,_,hw⟩:=DataW.trod_string hu hz
 refine ⟨k,?_⟩
 have h0:((cs.drop f.offset).take (P.cellsOf f.type))[0]?=some (.string k):=by rw [hk];rfl
 rw [List.getElem?_take] at h0
 split at h0
 ·rw [List.getElem?_drop,Nat.add_zero] at h0;exact h0
 ·cases h0
theorem fld_bool {t:TypeId} {fs:Array Field} {n:Nat} {cs:List Value} {y:DataW H × List MemPlace} (ht:P.underlying t=some (.struct fs)) (h:DataW.trod enc P w base spare held n t cs=some y) (i:Nat) (f:Field) (hf:fs[i]?=some f)
  (hu:P.underlying f.type=some .bool):∃ z:Bool,cs[f.offset]?=some (.bool z):=by
 obtain ⟨m,z,hz⟩:=fld ht h i f hf
 obtain ⟨k,hk,_⟩:=DataW.trod_bool hu hz
 refine ⟨k,?_⟩
 have h0:((cs.drop f.offset).take (P.cellsOf f.type))[0]?=some (.bool k):=by rw [hk];rfl
 rw [List.getElem?_take] at h0
 split at h0
 ·rw [List.getElem?_drop,Nat.add_zero] at h0;exact h0
 ·cases h0
theorem fld_two {t:TypeId} {fs gs:Array Field} {n:Nat} {cs:List Value} {y:DataW H × List MemPlace} (ht:P.underlying t=some (.struct fs)) (h:DataW.trod enc P w base spare held n t cs=some y) (i:Nat) (f f0 f1:Field) (hf:fs[i]?=some f)
  (hu:P.underlying f.type=some (.struct gs)) (h0:gs[0]?=some f0) (h1:gs[1]?=some f1) (u0:P.underlying f0.type=some (.int .i64)) (u1:P.underlying f1.type=some (.int .i64)) :
  ∃ a b:Int,cs[f.offset+f0.offset]?=some (.int .i64 a)∧cs[f.offset+f1.offset]?=some (.int .i64 b)∧i64 a∧i64 b:=by
 obtain ⟨m,z,hz⟩:=fld ht h i f hf
 obtain ⟨a,ha,wa⟩:=fld_int hu hz 0 f0 h0 u0
 obtain ⟨b,hb,wb⟩:=fld_int hu hz 1 f1 h1 u1
 refine ⟨a,b,?_,?_,wa,wb⟩
 ·rw [List.getElem?_take] at ha
  split at ha
  ·rw [List.getElem?_drop] at ha;exact ha
  ·cases ha
 ·rw [List.getElem?_take] at hb
  split at hb
  ·rw [List.getElem?_drop] at hb;exact hb
  ·cases hb
theorem len_struct {t:TypeId} {fs:Array Field} {n:Nat} {cs:List Value} {y:DataW H × List MemPlace} (ht:P.underlying t=some (.struct fs)) (h:DataW.trod enc P w base spare held n t cs=some y):cs.length=P.cellsOf t:=by
 obtain ⟨xs,m,_,_,hl,_⟩:=DataW.trod_struct ht h
 exact hl
theorem slice_rows {α:Type} {t e:TypeId} {fuel k:Nat} {cs:List Value} {x:DataW H × List MemPlace} (cells:α→List Value) (Good:α→Prop) (ht:P.underlying t=some (.slice e)) (hC:P.cellsOf e=k) (hk:0<k)
  (each:∀ n cs' y,DataW.trod enc P w base spare held n e cs'=some y→∃ r:α,cs'=cells r∧Good r) (h:DataW.trod enc P w base spare held fuel t cs=some x) :
  ∃ (v:Value) (rows:List α),cs=[v]∧ARd w v k (rows.map cells)∧∀ r∈rows,Good r:=by
 rcases open_slice ht h with ⟨hc,_⟩ | ⟨a,len,cap,m,n,D,Pl,hc,_,hlc,_,hm,_,hi⟩
 ·exact ⟨_,[],hc,⟨none,0,rfl,fun i h=>absurd h (Nat.not_lt_zero i)⟩,fun r h=>by cases h⟩
 ·rw [hC] at hi
  have hml:len≤m:=by rw [hm];split <;> omega
  have pick:∀ i:Fin len,∃ r:α,w.cells? base (a.add (i.val * k)) k=some (cells r)∧Good r:=fun i=>by
   obtain ⟨cs',h1,h2⟩:=hi i.val (by omega)
   obtain ⟨r,hr,hg⟩:=each _ _ _ h2
   exact ⟨r,by rw [h1,hr],hg⟩
  obtain ⟨rows,hlen,hrow⟩:∃ rows:List α,rows.length=len∧∀ i (h:i<rows.length),w.cells? base (a.add (i * k)) k=some (cells rows[i])∧Good rows[i]:=by
   refine ⟨List.ofFn fun i:Fin len=>Classical.choose (pick i),by simp,fun i h=>?_⟩
   have hil:i<len:=by simpa using h
   simp only [List.getElem_ofFn]
   exact Classical.choose_spec (pick ⟨i,hil⟩)
  refine ⟨_,rows,hc,⟨some a,cap,by simp [hlen],fun i hi'=>?_⟩,fun r hr=>?_⟩
  ·have hil:i<rows.length:=by simpa using hi'
   obtain ⟨_,hl,hcell⟩:=World.cells?_some (hrow i hil).1
   obtain ⟨_,hl0,hcell0⟩:=World.cells?_some (hrow 0 (by omega)).1
   have h1:=hcell0 0 hk
   rw [Nat.zero_mul] at h1
   obtain ⟨u0,hu0⟩:∃ u,(cells rows[0])[0]?=some u:=⟨_,List.getElem?_eq_getElem (show 0<(cells rows[0]).length by omega)⟩
   rw [hu0] at h1
   have h1:w.cell? a=some u0:=h1
   have hs:=spot_none h1
   refine ⟨a.block,a.off,by rw [← hs],cell_size h1,fun j u hj=>?_⟩
   rw [List.getElem_map] at hj
   have hjk:j<k:=by
    have:=(List.getElem?_eq_some_iff.1 hj).1
    omega
   have h2:=hcell j hjk
   rw [hs,add_at,add_at] at h2
   rw [h2]
   exact hj
  ·obtain ⟨i,hi',rfl⟩:=List.mem_iff_getElem.1 hr
   exact (hrow i hi').2
end
theorem list3 {cs:List Value} {a b c:Value} (hl:cs.length=3) (h0:cs[0]?=some a) (h1:cs[1]?=some b) (h2:cs[2]?=some c):cs=[a,b,c]:=by
 match cs,hl with
 | [_,_,_],_=>simp at h0 h1 h2;rw [h0,h1,h2]
theorem list4 {cs:List Value} {a b c d:Value} (hl:cs.length=4) (h0:cs[0]?=some a) (h1:cs[1]?=some b) (h2:cs[2]?=some c) (h3:cs[3]?=some d):cs=[a,b,c,d]:=by
 match cs,hl with
 | [_,_,_,_],_=>simp at h0 h1 h2 h3;rw [h0,h1,h2,h3]
theorem list5 {cs:List Value} {a b c d e:Value} (hl:cs.length=5) (h0:cs[0]?=some a) (h1:cs[1]?=some b) (h2:cs[2]?=some c) (h3:cs[3]?=some d) (h4:cs[4]?=some e):cs=[a,b,c,d,e]:=by
 match cs,hl with
 | [_,_,_,_,_],_=>simp at h0 h1 h2 h3 h4;rw [h0,h1,h2,h3,h4]
theorem list6 {cs:List Value} {a b c d e f:Value} (hl:cs.length=6) (h0:cs[0]?=some a) (h1:cs[1]?=some b) (h2:cs[2]?=some c) (h3:cs[3]?=some d) (h4:cs[4]?=some e) (h5:cs[5]?=some f):cs=[a,b,c,d,e,f]:=by
 match cs,hl with
 | [_,_,_,_,_,_],_=>simp at h0 h1 h2 h3 h4 h5;rw [h0,h1,h2,h3,h4,h5]
section
variable {H : Type} {enc : TypeId × Value → H} {W : World} {base : Nat} {spare : Nat → Bool} {held : Bool}
theorem cO_dv:Tryz.prog.cellsOf 84=3:=by kernel_rfl
theorem cO_rk:Tryz.prog.cellsOf 107=6:=by kernel_rfl
theorem cO_st:Tryz.prog.cellsOf 151=5:=by kernel_rfl
theorem cO_pt:Tryz.prog.cellsOf 148=4:=by kernel_rfl
theorem cO_cp:Tryz.prog.cellsOf 153=6:=by kernel_rfl
theorem dv_open (n:Nat) (cs:List Value) (y:DataW H × List MemPlace) (h:DataW.trod enc Tryz.prog W base spare held n 84 cs=some y):∃ d:Dv,cs=dvC d∧i64 d.lo∧i64 d.hi:=by
 have hl:=(len_struct Tryz.underlying84 h).trans cO_dv
 obtain ⟨a,ha⟩:=fld_string Tryz.underlying84 h 0 _ rfl Tryz.underlying9
 obtain ⟨b,hb,wb⟩:=fld_int Tryz.underlying84 h 1 _ rfl Tryz.underlying3
 obtain ⟨c,hc,wc⟩:=fld_int Tryz.underlying84 h 2 _ rfl Tryz.underlying3
 exact ⟨⟨a,b,c⟩,list3 hl ha hb hc,wb,wc⟩
theorem pt_open (n:Nat) (cs:List Value) (y:DataW H × List MemPlace) (h:DataW.trod enc Tryz.prog W base spare held n 148 cs=some y):∃ p:Pt,cs=ptC p∧i64 p.rank∧i64 p.shift∧i64 p.lo∧i64 p.hi:=by
 have hl:=(len_struct Tryz.underlying148 h).trans cO_pt
 obtain ⟨a,ha,wa⟩:=fld_int Tryz.underlying148 h 0 _ rfl Tryz.underlying3
 obtain ⟨b,hb,wb⟩:=fld_int Tryz.underlying148 h 1 _ rfl Tryz.underlying3
 obtain ⟨c,hc,wc⟩:=fld_int Tryz.underlying148 h 2 _ rfl Tryz.underlying3
 obtain ⟨d,hd,wd⟩:=fld_int Tryz.underlying148 h 3 _ rfl Tryz.underlying3
 exact ⟨⟨a,b,c,d⟩,list4 hl ha hb hc hd,wa,wb,wc,wd⟩
theorem rk_open (n:Nat) (cs:List Value) (y:DataW H × List MemPlace) (h:DataW.trod enc Tryz.prog W base spare held n 107 cs=some y):∃ r:Rk,cs=rkC r∧i64 r.kind∧i64 r.num∧i64 r.den∧i64 r.low∧i64 r.cnt:=by
 have hl:=(len_struct Tryz.underlying107 h).trans cO_rk
 obtain ⟨a,ha⟩:=fld_string Tryz.underlying107 h 0 _ rfl Tryz.underlying9
 obtain ⟨b,hb,wb⟩:=fld_int Tryz.underlying107 h 1 _ rfl Tryz.underlying3
 obtain ⟨c,d,hc,hd,wc,wd⟩:=fld_two Tryz.underlying107 h 2 _ _ _ rfl Tryz.underlying105 rfl rfl Tryz.underlying3 Tryz.underlying3
 obtain ⟨e,he,we⟩:=fld_int Tryz.underlying107 h 3 _ rfl Tryz.underlying3
 obtain ⟨f,hf,wf⟩:=fld_int Tryz.underlying107 h 4 _ rfl Tryz.underlying3
 exact ⟨⟨a,b,c,d,e,f⟩,list6 hl ha hb hc hd he hf,wb,wc,wd,we,wf⟩
theorem cp_open (n:Nat) (cs:List Value) (y:DataW H × List MemPlace) (h:DataW.trod enc Tryz.prog W base spare held n 153 cs=some y):∃ r:Cp,cs=cpC r∧i64 r.frm∧i64 r.to∧i64 r.shift∧i64 r.only:=by
 have hl:=(len_struct Tryz.underlying153 h).trans cO_cp
 obtain ⟨a,ha⟩:=fld_string Tryz.underlying153 h 0 _ rfl Tryz.underlying9
 obtain ⟨b,hb,wb⟩:=fld_int Tryz.underlying153 h 1 _ rfl Tryz.underlying3
 obtain ⟨c,hc,wc⟩:=fld_int Tryz.underlying153 h 2 _ rfl Tryz.underlying3
 obtain ⟨d,hd,wd⟩:=fld_int Tryz.underlying153 h 3 _ rfl Tryz.underlying3
 obtain ⟨e,he,we⟩:=fld_int Tryz.underlying153 h 4 _ rfl Tryz.underlying3
 obtain ⟨f,hf⟩:=fld_bool Tryz.underlying153 h 5 _ rfl Tryz.underlying4
 exact ⟨⟨a,b,c,d,e,f⟩,list6 hl ha hb hc hd he hf,wb,wc,wd,we⟩
theorem st_open (n:Nat) (cs:List Value) (y:DataW H × List MemPlace) (h:DataW.trod enc Tryz.prog W base spare held n 151 cs=some y) :
  ∃ r:St × Value,cs=stC r.1 r.2∧i64 r.1.div∧i64 r.1.num∧i64 r.1.den∧ARd W r.2 4 (r.1.parts.map ptC)∧∀ p∈r.1.parts,i64 p.rank∧i64 p.shift∧i64 p.lo∧i64 p.hi:=by
 have hl:=(len_struct Tryz.underlying151 h).trans cO_st
 obtain ⟨a,ha⟩:=fld_string Tryz.underlying151 h 0 _ rfl Tryz.underlying9
 obtain ⟨b,hb,wb⟩:=fld_int Tryz.underlying151 h 1 _ rfl Tryz.underlying3
 obtain ⟨c,d,hc,hd,wc,wd⟩:=fld_two Tryz.underlying151 h 2 _ _ _ rfl Tryz.underlying105 rfl rfl Tryz.underlying3 Tryz.underlying3
 obtain ⟨m,z,hz⟩:=fld Tryz.underlying151 h 3 _ rfl
 obtain ⟨v,ps,hv,hps,hg⟩:=slice_rows ptC (fun p=>i64 p.rank∧i64 p.shift∧i64 p.lo∧i64 p.hi) Tryz.underlying149 cO_pt (by omega) pt_open hz
 have h4:cs[4]?=some v:=by
  have h0:=congrArg (fun l=>l[0]?) hv
  simp only [List.getElem?_take] at h0
  split at h0
  ·rw [List.getElem?_drop] at h0;exact h0
  ·cases h0
 exact ⟨(⟨a,b,c,d,ps⟩,v),list5 hl ha hb hc hd h4,wb,wc,wd,hps,hg⟩
set_option maxRecDepth 100000 in
theorem spec_open {b0:Nat} {r:Reach} {v:Value} {d:DataW H} {p:List MemPlace} (hv:Value.okWide Tryz.prog W r b0 27 v) (h:DataW.Trod enc Tryz.prog W base spare held 27 v d p) :
  ∃ (v1 v2 v3 v4:Value) (S:Sp) (f:Nat→Value),v = .agg #[v1,v2,v3,v4]∧SpRd W v1 v2 v3 v4 f S∧SpInt S:=by
 obtain ⟨v1,v2,v3,v4,y1,y2,y3,y4,n,rfl,_,_,e1,e2,e3,e4⟩:=Go.Joins.open_agg4 Tryz.underlying27 (by kernel_rfl) (by kernel_rfl) hv h
 obtain ⟨u1,ds,h1,r1,g1⟩:=slice_rows dvC (fun d=>i64 d.lo∧i64 d.hi) Tryz.underlying22 cO_dv (by omega) dv_open e1
 obtain ⟨u2,rs,h2,r2,g2⟩:=slice_rows rkC (fun r=>i64 r.kind∧i64 r.num∧i64 r.den∧i64 r.low∧i64 r.cnt) Tryz.underlying23 cO_rk (by omega) rk_open e2
 obtain ⟨u3,ss,h3,r3,g3⟩:=slice_rows (fun r:St × Value=>stC r.1 r.2) (fun r=>i64 r.1.div∧i64 r.1.num∧i64 r.1.den∧ARd W r.2 4 (r.1.parts.map ptC)∧∀ p∈r.1.parts,i64 p.rank∧i64 p.shift∧i64 p.lo∧i64 p.hi) Tryz.underlying24 cO_st (by omega) st_open e3
 obtain ⟨u4,cps,h4,r4,g4⟩:=slice_rows cpC (fun r=>i64 r.frm∧i64 r.to∧i64 r.shift∧i64 r.only) Tryz.underlying25 cO_cp (by omega) cp_open e4
 obtain rfl:v1=u1:=by simpa using h1
 obtain rfl:v2=u2:=by simpa using h2
 obtain rfl:v3=u3:=by simpa using h3
 obtain rfl:v4=u4:=by simpa using h4
 refine ⟨v1,v2,v3,v4,⟨ds,rs,ss.map (fun r=>r.1),cps⟩,fun i=>(ss.map (fun r=>r.2)).getD i (.int .i64 0),rfl,⟨r1,r2,?_,r4,?_⟩,?_⟩
 ·have e:((ss.map (fun r:St × Value=>r.1)).mapIdx fun i x=>stC x ((ss.map (fun r:St × Value=>r.2)).getD i (.int .i64 0)))=ss.map fun r=>stC r.1 r.2:=by
   apply List.ext_getElem
   ·simp
   ·intro i h1 h2
    have hi:i<ss.length:=by simpa using h2
    simp [hi]
  show ARd W v3 5 ((ss.map (fun r:St × Value=>r.1)).mapIdx _)
  rw [e]
  exact r3
 ·intro i hi
  have hi':i<ss.length:=by simpa using hi
  have hg:=(g3 ss[i] (List.getElem_mem hi')).2.2.2.1
  have e1:((ss.map (fun r:St × Value=>r.2)).getD i (.int .i64 0))=ss[i].2:=by simp [hi']
  have e2:(ss.map (fun r:St × Value=>r.1))[i]'hi=ss[i].1:=by simp
  show ARd W ((ss.map (fun r:St × Value=>r.2)).getD i (.int .i64 0)) 4 (((ss.map (fun r:St × Value=>r.1))[i]'hi).parts.map ptC)
  rw [e1,e2]
  exact hg
 ·refine ⟨g1,g2,fun x hx=>?_,fun x hx p hp=>?_,g4⟩
  ·obtain ⟨r,hr,rfl⟩:=List.mem_map.1 hx
   exact ⟨(g3 r hr).1,(g3 r hr).2.1,(g3 r hr).2.2.1⟩
  ·obtain ⟨r,hr,rfl⟩:=List.mem_map.1 hx
   exact (g3 r hr).2.2.2.2 p hp
end
end Go.Proofs.YthhfmppealmblaaGreatDoor
namespace Go.Proofs.YthhfmppealmblaaGreatDoor
open Go.ChangeShapes Go.WideShapes Go.ChangeAt Go.ChangeMaps Go.RowKit
theorem own:ownKnob Tryz.prog.godebug=none:=by kernel_rfl
theorem lays:laidOutB Tryz.prog=true:=by kernel_rfl
theorem gPow:Tryz.prog.globalNamed "internal/strconv.uint64pow10"=some 0:=by kernel_rfl
theorem yPow:(Tryz.prog.globals[0]?).map (·.type)=some 281:=by kernel_rfl
theorem cPow:Tryz.prog.cellsOf 281=20:=by kernel_rfl
theorem cPow1:Tryz.prog.cellsOf 229=1:=by kernel_rfl
def listT:List (String × DataW Unit):=Rows.auditClaimsRow.laid
theorem tabsT {W:World} (h:laidMetH Tryz.prog listT W):Tabs W where
 pow:=by
  rw [MakeChecks.laidMetH_plain _ _ _ (by kernel_rfl)] at h
  exact Lib.tabIs_of_head gPow yPow Tryz.underlying281 Tryz.underlying229 cPow1 cPow (h.tail.tail)
noncomputable def laidWorld (os:Os):World:=World.doorLaid Tryz.prog 80 os
theorem metT (os:Os) (args:Array Value):laidMet Tryz.prog listT ((laidWorld os).forCall (fun _ _=>0) ⟨#[],args,[]⟩).memory :=
 laidMet_of_run' 8 (by kernel_rfl) (by kernel_rfl)
theorem hasO (os:Os) (args:Array Value):((laidWorld os).forCall (fun _ _=>0) ⟨#[],args,[]⟩).variablesRefB Tryz.prog=true:=by kernel_rfl
theorem restT (os:Os) (args:Array Value):((((laidWorld os).forCall (fun _ _=>0) ⟨#[],args,[]⟩).heap.toList.drop Tryz.prog.globals.size).take ((begin Tryz.prog (fun _ _=>0) default).world.heap.size-Tryz.prog.globals.size)) =
  (begin Tryz.prog (fun _ _=>0) default).world.heap.toList.drop Tryz.prog.globals.size:=by kernel_rfl
end Go.Proofs.YthhfmppealmblaaGreatDoor
namespace Go.Proofs.YthhfmppealmblaaGreatDoor
open Go.ChangeShapes Go.WideShapes Go.ChangeAt Go.ChangeMaps Go.RowKit
section
variable {H : Type} {enc : TypeId × Value → H} {W : World} {base : Nat} {spare : Nat → Bool} {held : Bool}
theorem cP_ev:Tryz.prog.cellsOf 42=5:=by kernel_rfl
theorem cP_cl:Tryz.prog.cellsOf 47=4:=by kernel_rfl
theorem ev_open (n:Nat) (cs:List Value) (y:DataW H × List MemPlace) (h:DataW.trod enc Tryz.prog W base spare held n 42 cs=some y):∃ x:Ev,cs=evC x∧True:=by
 have hl:=(len_struct Tryz.underlying42 h).trans cP_ev
 obtain ⟨a,ha,_⟩:=fld_int Tryz.underlying42 h 0 _ rfl Tryz.underlying2
 obtain ⟨b,hb,_⟩:=fld_int Tryz.underlying42 h 1 _ rfl Tryz.underlying3
 obtain ⟨c,hc,_⟩:=fld_int Tryz.underlying42 h 2 _ rfl Tryz.underlying3
 obtain ⟨d,hd,_⟩:=fld_int Tryz.underlying42 h 3 _ rfl Tryz.underlying3
 obtain ⟨e,he,_⟩:=fld_int Tryz.underlying42 h 4 _ rfl Tryz.underlying3
 exact ⟨(a,b,c,d,e),list5 hl ha hb hc hd he,trivial⟩
theorem cl_open (n:Nat) (cs:List Value) (y:DataW H × List MemPlace) (h:DataW.trod enc Tryz.prog W base spare held n 47 cs=some y):∃ x:Cl,cs=clC x∧True:=by
 have hl:=(len_struct Tryz.underlying47 h).trans cP_cl
 obtain ⟨a,b,ha,hb,_,_⟩:=fld_two Tryz.underlying47 h 0 _ _ _ rfl Tryz.underlying45 rfl rfl Tryz.underlying3 Tryz.underlying3
 obtain ⟨c,hc,_⟩:=fld_int Tryz.underlying47 h 1 _ rfl Tryz.underlying2
 obtain ⟨d,hd,_⟩:=fld_int Tryz.underlying47 h 2 _ rfl Tryz.underlying2
 exact ⟨((a,b),c,d),list4 hl ha hb hc hd,trivial⟩
set_option maxRecDepth 100000 in
theorem rec_open {b0:Nat} {r:Reach} {v:Value} {d:DataW H} {p:List MemPlace} (hv:Value.okWide Tryz.prog W r b0 28 v) (h:DataW.Trod enc Tryz.prog W base spare held 28 v d p) :
  ∃ l:List Ev,ARd W v 5 (l.map evC):=by
 obtain ⟨a0,l0,c0,rfl⟩:=okWide_slice Tryz.underlying28 hv
 obtain ⟨fuel,hf⟩:=h
 obtain ⟨v',l,hc,hr,_⟩:=slice_rows evC (fun _=>True) Tryz.underlying28 cP_ev (by omega) ev_open hf
 simp only [Value.cells,List.cons.injEq,and_true] at hc
 exact ⟨l,by rw [hc];exact hr⟩
set_option maxRecDepth 100000 in
theorem clm_open {b0:Nat} {r:Reach} {v:Value} {d:DataW H} {p:List MemPlace} (hv:Value.okWide Tryz.prog W r b0 29 v) (h:DataW.Trod enc Tryz.prog W base spare held 29 v d p) :
  ∃ l:List Cl,ARd W v 4 (l.map clC):=by
 obtain ⟨a0,l0,c0,rfl⟩:=okWide_slice Tryz.underlying29 hv
 obtain ⟨fuel,hf⟩:=h
 obtain ⟨v',l,hc,hr,_⟩:=slice_rows clC (fun _=>True) Tryz.underlying29 cP_cl (by omega) cl_open hf
 simp only [Value.cells,List.cons.injEq,and_true] at hc
 exact ⟨l,by rw [hc];exact hr⟩
end
end Go.Proofs.YthhfmppealmblaaGreatDoor
