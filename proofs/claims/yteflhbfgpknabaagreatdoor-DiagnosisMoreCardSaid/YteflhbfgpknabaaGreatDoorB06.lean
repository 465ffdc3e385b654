/-
  A part of the proof: VS,VV,WJ.
-/
import Derived.Test.YteflhbfgpknabaaGreatDoorB01
import Derived.Test.YteflhbfgpknabaaGreatDoorB05
import Derived.Test.YteflhbfgpknabaaGreatDoorL22
import Derived.Laws.EntriesVeiled
import Derived.Test.YteflhbfgpknabaaGreatDoorB04
set_option maxRecDepth 100000
set_option maxHeartbeats 25600000
namespace Go.Proofs.YteflhbfgpknabaaGreatDoor
open Go.Lib (hid)
open Go.RowKit Go.Shelf
def DsE (w:World) (v1 v2 v3 v4 tv:Value) (many:Nat) (S:Sp) (B:(Th→Int)→Pp→Bool) (T:List Tr) (St V:List (List Ft)) (f:List Ft) (W:World) (e:Ending) (W':World):Prop :=
 e = .returned (.tuple #[])∧∃ V' O' g' vo',DsW w v1 v2 v3 v4 tv many V' O' g' vo' W'∧DfI S B T many St V' O'∧(∀ x∈V,x∈V')∧(f.length≤many→f∈V')∧KpF (w.heap.size+7) W W'
def DsC (w:World) (v1 v2 v3 v4 tv:Value) (many:Nat) (S:Sp) (B:(Th→Int)→Pp→Bool) (T:List Tr) (f:List Ft):Prop :=
 ∀ (fv:Value) (St V O:List (List Ft)) (g:Nat→Value) (vo:Value) (W:World),FtsOk S f→W.ownsRow (w.heap.size+7) 74 3 fv f.length (ftCs f)→DsW w v1 v2 v3 v4 tv many V O g vo W→DfI S B T many St V O →
  Calls Tryz.prog 68 #[fv,.pointer (some ⟨w.heap.size+4,0,none⟩),.pointer (some ⟨w.heap.size+2,0,none⟩),.pointer (some ⟨w.heap.size,0,none⟩),.pointer (some ⟨w.heap.size+1,0,none⟩),.pointer (some ⟨w.heap.size+5,0,none⟩),.pointer (some ⟨w.heap.size+6,0,none⟩)] W (DsE w v1 v2 v3 v4 tv many S B T St V f W)
def JR (k A d:Nat) (R:Value→World→Prop) (J:(Nat→Bool)→(Nat→Value)→World→Prop) (ℓ:Nat→Bool) (x:Nat→Value) (z:World):Prop:=J ℓ x z∧(ℓ k=true→ℓ A=false→R (x d) z)
section
variable {ops : Array Oper} {k A d : Nat} {R : Value → World → Prop} {J : (Nat → Bool) → (Nat → Value) → World → Prop}
theorem jr_cong (hk:k<ops.size) (hA:A<ops.size) (hJ:∀ ℓ ℓ' x w,(∀ n,n<ops.size→ℓ n=ℓ' n)→J ℓ x w→J ℓ' x w) (ℓ ℓ':Nat→Bool) (x:Nat→Value) (w:World) (h:∀ n,n<ops.size→ℓ n=ℓ' n) (hj:JR k A d R J ℓ x w):JR k A d R J ℓ' x w :=
 ⟨hJ ℓ ℓ' x w h hj.1,fun q r=>hj.2 ((h k hk).trans q) ((h A hA).trans r)⟩
theorem jr_start (hk:k<ops.size) {x:Nat→Value} {w:World} (hJ:∀ ℓ,(∀ n,n<ops.size→ℓ n=false)→J ℓ x w) (ℓ:Nat→Bool) (h:∀ n,n<ops.size→ℓ n=false):JR k A d R J ℓ x w:=⟨hJ ℓ h,fun q=>by rw [h k hk] at q;cases q⟩
theorem jr_plain {i:Nat} {ℓ:Nat→Bool} {x:Nat→Value} {z z':World} {o:Option Nat} {v:Value} (hR:∀ v w w',R v w→Below w.heap.size w w'→R v w') (hj:JR k A d R J ℓ x z) (hJ:J (setB ℓ i) (putX x o v) z') (hik:i≠k) (hiA:i≠A) (hd:o≠some d) (hb:Below z.heap.size z z'):JR k A d R J (setB ℓ i) (putX x o v) z':=by
 refine ⟨hJ,fun q r=>?_⟩
 rw [setB,if_neg (fun e=>hik e.symm)] at q
 rw [setB,if_neg (fun e=>hiA e.symm)] at r
 have e:putX x o v d=x d:=by
  cases o with
  | none=>rfl
  | some d'=>exact upd_other x v (fun e=>hd (by rw [e]))
 rw [e]
 exact hR _ _ _ (hj.2 q r) hb
theorem jr_here {ℓ:Nat→Bool} {x:Nat→Value} {z':World} {v:Value} (hJ:J (setB ℓ k) (putX x (some d) v) z') (hr:R v z'):JR k A d R J (setB ℓ k) (putX x (some d) v) z':=⟨hJ,fun _ _=>by
 have e:putX x (some d) v d=v:=upd_same x d v
 rw [e]
 exact hr⟩
theorem jr_past {i:Nat} {ℓ:Nat→Bool} {x:Nat→Value} {z':World} (hJ:J (setB ℓ i) x z') (h:setB ℓ i A=true):JR k A d R J (setB ℓ i) x z':=⟨hJ,fun _ r=>by rw [h] at r;cases r⟩
end
theorem add_step (v1 v2 v3 v4:Value) (S:Sp) (ok:SpWk S) (hc:(checkP S).2=0) (fp:Nat→Value) (L:List Tl) (hL:∀ t∈L,HnOk S t.h∧t.l.Pairwise ppLt∧∀ p∈t.l,p∈allFrom 0 S.rs) (hll:L.length≤20) (tv:Value) (gk gs gc gh:Nat→Value) (B:(Th→Int)→Pp→Bool) (hB:SndIs S B) (many:Nat) (hm3:many≤3) (w:World) (hD:Deb w) (ht:Tabs w) (hsp:SpRd w v1 v2 v3 v4 fp S) (hcap:∀ i,i<S.ss.length→CapOk (fp i)) (htv:TlRd w tv L gk gs gc gh)
  (f:List Ft) (hlen:f.length≤many+1) (ih:f.length≤many→∀ m:List Ft,m.length=f.length+1→DsC w v1 v2 v3 v4 tv many S B (trs L) m):DsC w v1 v2 v3 v4 tv many S B (trs L) f:=by
 intro fv St V O g vo W hf hfr hds hdf
 obtain ⟨at',ct,ev⟩:=htv.form
 subst ev
 have HDI:=hid (fun (F:List Ft) (hF:FtsOk S F) (hFl:F.length≤10) (u:Value) (W:World) (hb:Below w.heap.size w W) (hfv:ARd W u 3 (F.map ftC))=>differs_any v1 v2 v3 v4 S ok hc fp u F hF hFl L hL (by omega) (.slice at' L.length ct) gk gs gc gh B hB W (hD.below hb) (ht.below hb) (hsp.later hb) hcap (htv.later hb) hfv)
 have HCA:=hid (fun (W:World) (hb:Below w.heap.size w W) (a t:Int)=>causes_any v1 v2 v3 v4 S hc fp W (hsp.later hb) a t)
 have HIH:=hid ih
 have HSL:=hid (sp_lens hc)
 obtain ⟨i0,hi0,hz0,hz1,hz2⟩:=info_parts ftf_info
 have HOF:=hid hf
 have HSI:=hid (fun (hl:f.length≤3)=>seen_iff hdf.v hm3 hf hl)
 have HDF:=hid hdf
 have HOL:=hid (hdf.len hc hm3)
 obtain ⟨K,hK⟩:∃ K,W.heap.size=K:=⟨_,rfl⟩
 obtain ⟨v',W2,hcp,hkb,hb2⟩:=key_copied f (w.heap.size+7) fv W 3 (by have:=hds.ad.lt;omega) hfr
 rw [hK] at hcp hkb
 unfold zeroT at hcp
 have HDS:=hid (hds.later hb2)
 have HFR:=hid (row_later hfr hb2)
 have HKB:=hid hkb
 have HKP:=hid (KpF.below (X:=w.heap.size+7) hb2)
 obtain ⟨fa,fc,rfl⟩:=own_form hfr
 have hfn:f.length≤4:=by omega
 clear hf hfr hds hdf ok hc hL hB hD ht hsp hcap htv ih hkb hb2
 go_enter Tryz.func68,Tryz.ntmps68
 go_upto_region 2 with fail
 clear hcp
 obtain ⟨x,hx⟩:∃ x,triOf f=x:=⟨_,rfl⟩
 rw [hx] at HKB HSI
 obtain ⟨⟨a1,a2,a3⟩,⟨b1,b2,b3⟩,c1,c2,c3⟩:=x
 have HX:=hid hx
 clear hx hK
 obtain ⟨k0,k1,k2,k3,k4,k5,k6,k7,k8⟩:W2.cell? ⟨K,0,none⟩=some (.int .i64 a1)∧W2.cell? ⟨K,1,none⟩=some (.int .i64 a2)∧W2.cell? ⟨K,2,none⟩=some (.int .i64 a3)∧W2.cell? ⟨K,3,none⟩=some (.int .i64 b1)∧W2.cell? ⟨K,4,none⟩=some (.int .i64 b2)∧W2.cell? ⟨K,5,none⟩=some (.int .i64 b3)∧W2.cell? ⟨K,6,none⟩=some (.int .i64 c1)∧W2.cell? ⟨K,7,none⟩=some (.int .i64 c2)∧W2.cell? ⟨K,8,none⟩=some (.int .i64 c3):=⟨HKB.out.cell 0,HKB.out.cell 1,HKB.out.cell 2,HKB.out.cell 3,HKB.out.cell 4,HKB.out.cell 5,HKB.out.cell 6,HKB.out.cell 7,HKB.out.cell 8⟩
 have m0:W2.cell? ⟨w.heap.size+4,0,none⟩=some (.map (some (w.heap.size+3))):=HDS.out.sn.cell 0
 have hmp:=HDS.out.mp
 obtain ⟨bb,hbb⟩:∃ bb:Bool,(((a1,a2,a3),(b1,b2,b3),c1,c2,c3):Tri)∈V.map triOf↔bb=true:=⟨decide ((((a1,a2,a3),(b1,b2,b3),c1,c2,c3):Tri)∈V.map triOf),by rw [decide_eq_true_iff]⟩
 have hsome:(mget (((a1,a2,a3),(b1,b2,b3),c1,c2,c3):Tri) (setU (V.map triOf))).isSome=bb:=by
  rw [mget_setU]
  by_cases h:(((a1,a2,a3),(b1,b2,b3),c1,c2,c3):Tri)∈V.map triOf
  ·rw [if_pos h];exact (hbb.1 h).symm
  ·rw [if_neg h]
   cases hb:bb with
   | false=>rfl
   | true=>exact absurd (hbb.2 hb) h
 have hlk:(Instr.lookup 110 (.map (some (w.heap.size+3))) (.agg #[.int .i64 a1,.int .i64 a2,.int .i64 a3,.int .i64 b1,.int .i64 b2,.int .i64 b3,.int .i64 c1,.int .i64 c2,.int .i64 c3]) true).run Tryz.prog W2 = .ok (.tuple #[.agg #[],.bool bb]) W2:=by
  have:=(hmp.lookup tri_keys Tryz.underlying110 (Tryz.zeroValue114 _) ((a1,a2,a3),(b1,b2,b3),c1,c2,c3)).2
  rw [(mget_setU_some _ _).2,hsome] at this
  exact this
 have hb3:Below W2.heap.size W2 (W2.alloc (.cells #[] 114)):=(Below.refl _ W2).alloc (Nat.le_refl _) _
 have HB3:=hid hb3
 have HBB:=hid hbb
 clear hbb hb3
 go_upto_region 3 with fail
 have HDS3:=hid (HDS.out.later HB3.out)
 have HFR3:=hid (row_later HFR.out HB3.out)
 have HKB3:=hid (HKB.out.below HB3.out)
 have HKP3:=hid (HKP.out.trans (KpF.below HB3.out))
 obtain ⟨W3,hW3⟩:∃ W3,W2.alloc (.cells #[] 114)=W3:=⟨_,rfl⟩
 rw [hW3] at HDS3 HFR3 HKB3 HKP3 ⊢
 clear hlk hsome hmp m0 k0 k1 k2 k3 k4 k5 k6 k7 k8 HDS HFR HKB HKP HB3 hW3
 have n0:W3.cell? ⟨w.heap.size+2,0,none⟩=some (.int .i64 many):=HDS3.out.my.cell 0
 cases bb with
 | true =>
  have HIN:=hid (fun (hl:f.length≤many)=>(HSI.out (by omega)).1 (HBB.out.2 rfl))
  go_wp2
  refine bodyPost_ret (results_none rfl _ _ _) rfl ?_
  exact ⟨rfl,V,O,g,vo,HDS3.out,HDF.out,fun _ h=>h,HIN.out,HKP3.out⟩
 | false =>
 by_cases hlm:many<f.length
 ·have d1:decide ((many:Int)<(f.length:Int))=true:=decide_eq_true (by omega)
  have d2:decide (many<f.length)=true:=decide_eq_true hlm
  go_wp2
  refine bodyPost_ret (results_none rfl _ _ _) rfl ?_
  exact ⟨rfl,V,O,g,vo,HDS3.out,HDF.out,fun _ h=>h,fun h=>absurd hlm (by omega),HKP3.out⟩
 have d1:decide ((many:Int)<(f.length:Int))=false:=decide_eq_false (by omega)
 have d2:decide (many<f.length)=false:=decide_eq_false hlm
 have HNK:=hid (show (((a1,a2,a3),(b1,b2,b3),c1,c2,c3):Tri) ∉ V.map triOf from fun h=>absurd (HBB.out.1 h) (by decide))
 have HNS:=hid (show f ∉ V from fun h=>absurd (HBB.out.1 ((HSI.out (by omega)).2 h)) (by decide))
 clear HBB HSI
 go_upto_region 4 with fail
 clear d1 d2
 have hmp:=HDS3.out.mp
 have m0:W3.cell? ⟨w.heap.size+4,0,none⟩=some (.map (some (w.heap.size+3))):=HDS3.out.sn.cell 0
 obtain ⟨k0,k1,k2,k3,k4,k5,k6,k7,k8⟩:W3.cell? ⟨K,0,none⟩=some (.int .i64 a1)∧W3.cell? ⟨K,1,none⟩=some (.int .i64 a2)∧W3.cell? ⟨K,2,none⟩=some (.int .i64 a3)∧W3.cell? ⟨K,3,none⟩=some (.int .i64 b1)∧W3.cell? ⟨K,4,none⟩=some (.int .i64 b2)∧W3.cell? ⟨K,5,none⟩=some (.int .i64 b3)∧W3.cell? ⟨K,6,none⟩=some (.int .i64 c1)∧W3.cell? ⟨K,7,none⟩=some (.int .i64 c2)∧W3.cell? ⟨K,8,none⟩=some (.int .i64 c3):=⟨HKB3.out.cell 0,HKB3.out.cell 1,HKB3.out.cell 2,HKB3.out.cell 3,HKB3.out.cell 4,HKB3.out.cell 5,HKB3.out.cell 6,HKB3.out.cell 7,HKB3.out.cell 8⟩
 go_upto_region 5 with (at_mapUpdate;refine wpList_update_mp _ rfl _ _ _ 110 rfl 114 tri_keys Tryz.underlying110 rfl hmp (((a1,a2,a3),(b1,b2,b3),c1,c2,c3):Tri) (.agg #[]) rfl rfl ?_;intro W4 hm4 hg4 hs4)
 try go_frame
 rw [mput_setU HNK.out,← HX.out,show V.map triOf++[triOf f]=(V++[f]).map triOf from by simp] at hm4
 have hse:=HDS3.out.seen hm4 hg4
 have HDS4:=hid hse.1
 have HFR4:=hid (hse.2.row _ _ _ HFR3.out)
 have HKP4:=hid (HKP3.out.trans hse.2)
 clear hm4 hg4 hs4 hmp m0 k0 k1 k2 k3 k4 k5 k6 k7 k8 hse HDS3 HFR3 HKP3 HKB3 HNK HX n0
 obtain ⟨s0,s1,s2,s3⟩:=HDS4.out.sp.four
 have l0:W4.cell? ⟨w.heap.size+1,0,none⟩=some (.slice at' L.length ct):=HDS4.out.tl.cell 0
 go_wp2_with fail
 refine (HDI.out f HOF.out (by omega) (.slice fa f.length fc) W4 HDS4.out.b (ARd.of_fts HFR4.out)).mono ?_
 rintro e W5 ⟨n,p,rfl,hn,hnp,hb5⟩
 obtain ⟨p1,p2⟩:=p
 have hb6:Below W5.heap.size W5 (W5.alloc (.cells #[.int .i64 p1,.int .i64 p2] 78)):=(Below.refl _ W5).alloc (Nat.le_refl _) _
 have HDS6:=hid ((HDS4.out.later hb5).later hb6)
 have HFR6:=hid (row_later (row_later HFR4.out hb5) hb6)
 have HKP6:=hid ((HKP4.out.trans (KpF.below hb5)).trans (KpF.below hb6))
 have HPB:=hid (Blk.new W5 78 #[.int .i64 p1,.int .i64 p2])
 have HNP:=hid hnp
 have HN:=hid hn
 clear s0 s1 s2 s3 l0 hb5 hnp hn HDS4 HFR4 HKP4
 go_upto_region 6 with fail
 obtain ⟨PB,hPB⟩:∃ PB,W5.heap.size=PB:=⟨_,rfl⟩
 rw [hPB] at HPB ⊢
 generalize W5.alloc (.cells #[.int .i64 p1,.int .i64 p2] 78)=W6 at *
 clear hPB hb6
 have n0:W6.cell? ⟨w.heap.size+2,0,none⟩=some (.int .i64 many):=HDS6.out.my.cell 0
 by_cases hE:Exps S B f (trs L)
 ·have hn1:n = -1:=HN.out.trans (failI_exps.2 hE)
  subst hn1
  clear HNP HN HIH HDI HCA
  by_cases hl:f.length=many
  ·have q1:((f.length:Int)==(many:Int))=true:=by rw [beq_iff_eq];omega
   have q2:(f.length==many)=true:=by rw [beq_iff_eq];omega
   have HFO:=hid (HDF.out.found HOF.out HNS.out hl hE)
   obtain ⟨j0,hj0,jz0,jz1,jz2⟩:=info_parts fts_info
   have o0:W6.cell? ⟨w.heap.size+5,0,none⟩=some vo:=HDS6.out.ou.cell 0
   have hol:=HOL.out
   have hlt6:w.heap.size+7≤W6.heap.size:=by have:=HDS6.out.ad.lt;omega
   clear hE hl HDF HNS HOF
   go_wp2_with (at_builtin;refine wpList_append_lies _ rfl _ _ 43 rfl (w.heap.size+7) 28 j0 _ 1 24 Tryz.underlying43 hj0 jz0 jz1 jz2 rfl (by omega) _ _ _ rfl (HDS6.out.row.alloc _) ⟨W6.heap.size,0,none⟩ 1 1 [.slice fa f.length fc] rfl rfl (World.news_of_block (cs:=#[.slice fa f.length fc]) (t:=28) (fr:=(0,0)) (heap_alloc_new W6 _)) (by simp [Value.oneCell']) (by omega) (by unfold maxLen;omega) (by omega) (by simp;omega) (W6.heap.size+1) (by simp) ?_;intro gg cap w7 hown7 hgrow hat7 hlt7;have hou7:=HDS6.out.ou.rowed HDS6.out.row (by decide) hgrow;have o7:w7.cell? ⟨w.heap.size+5,0,none⟩=some vo:=hou7.cell 0;have of7:=hou7.frozen 0;have HPU:=hid (HDS6.out.pushed HFR6.out hgrow hown7);clear hown7 hgrow hat7 hlt7 hou7)
   try go_wp2
   refine bodyPost_ret (results_none rfl _ _ _) rfl ?_
   exact ⟨rfl,_,_,_,_,HPU.out.1,HFO.out,fun _ h=>List.mem_append_left _ h,fun _=>List.mem_append_right _ (List.mem_singleton.2 rfl),HKP6.out.trans HPU.out.2⟩
  ·have q1:((f.length:Int)==(many:Int))=false:=by rw [beq_eq_false_iff_ne];omega
   have q2:(f.length==many)=false:=by rw [beq_eq_false_iff_ne];omega
   have HSM:=hid (HDF.out.small HOF.out HNS.out (by omega) hE)
   clear hE HDF HNS HOF
   go_wp2
   refine bodyPost_ret (results_none rfl _ _ _) rfl ?_
   exact ⟨rfl,_,_,_,_,HDS6.out,HSM.out,fun _ h=>List.mem_append_left _ h,fun _=>List.mem_append_right _ (List.mem_singleton.2 rfl),HKP6.out⟩
 ·have hn0:n ≠ -1:=fun h=>hE (failI_exps.1 (HN.out.symm.trans h))
  have hnge:0≤n:=by have:=(fstI_ge (badB S B f L) L.length).1;have e:n=fstI (badB S B f L) L.length:=HN.out;omega
  have d1:decide (n<0)=false:=decide_eq_false (by omega)
  obtain ⟨t,htL,hpa,hpd⟩:=HNP.out hnge
  have HPA:=hid hpa
  have HTK:=hid (HDF.out.take HOF.out HNS.out (by omega) hE)
  have HLD:=hid (fun (V':List (List Ft)) (h:∀ x∈causeL S (p1,p2),x ∉ f→opp x ∉ f→∀ m:List Ft,m.Perm (x :: f)→m.Pairwise fLt→m∈V')=>show LedP S B (trs L) V' f from ⟨(onH t.h,t.l),List.mem_map.2 ⟨t,htL,rfl⟩,(p1,p2),hpa,hpd,h⟩)
  clear hn0 hE HNP HN HDI hpa hpd HDF HOL
  obtain ⟨s0,s1,s2,s3⟩:=HDS6.out.sp.four
  obtain ⟨y0,y1⟩:W6.cell? ⟨PB,0,none⟩=some (.int .i64 p1)∧W6.cell? ⟨PB,1,none⟩=some (.int .i64 p2):=⟨HPB.out.cell 0,HPB.out.cell 1⟩
  go_wp2_with fail
  refine (HCA.out W6 HDS6.out.b p1 p2).mono ?_
  rintro e W7 ⟨u,rfl,hrow,hb7⟩
  obtain ⟨ua,un,rfl⟩:=own_form hrow
  have HDS7:=hid (HDS6.out.later hb7)
  have HFR7:=hid (row_later HFR6.out hb7)
  have HKP7:=hid (HKP6.out.trans (KpF.below hb7))
  have HCR7:=hid (row_base hrow (show w.heap.size+7≤W6.heap.size by have:=HDS6.out.ad.lt;omega))
  have HCO:=hid (fun (x:Ft) (hx:x∈causeL S (p1,p2))=>cause_ok HPA.out hx)
  have HCL:=hid (csB_len S (p1,p2) S.cs.length)
  rw [csB_all] at HCL
  obtain ⟨C,hC⟩:∃ C,causeL S (p1,p2)=C:=⟨_,rfl⟩
  rw [hC] at HLD HCR7 HCO HCL ⊢
  have hcl:C.length≤1000:=by have:=HCL.out;have:=HSL.out;omega
  clear HCL
  clear hrow hb7 hC HCA HDS6 HFR6 HKP6 HPA HPB s0 s1 s2 s3 y0 y1 htL n0 d1 HNS
  have HV0:=hid (show ∀ x∈V++[f],x∈V++[f] from fun _ h=>h)
  have HM0:=hid (show ∀ i (hi:i<C.length),i<0→C[i] ∉ f→opp C[i] ∉ f→f.length<many→∀ m:List Ft,m.Perm (C[i] :: f)→m.Pairwise fLt→m∈V++[f] from fun i hi h=>absurd h (Nat.not_lt_zero _))
  have HK0:=hid (KpF.refl (w.heap.size+7) W7)
  go_wp2
  go_loopw [56] (fun x wr=>∃ (j:Nat) (V' O':List (List Ft)) (g':Nat→Value) (vo':Value),j≤C.length∧x = .int .i64 j∧Hid (DsW w v1 v2 v3 v4 (.slice at' L.length ct) many V' O' g' vo' wr)∧Hid (DfI S B (trs L) many (f :: St) V' O')∧Hid (∀ x∈V++[f],x∈V')∧Hid (∀ i (hi:i<C.length),i<j→C[i] ∉ f→opp C[i] ∉ f→f.length<many→∀ m:List Ft,m.Perm (C[i] :: f)→m.Pairwise fLt→m∈V')∧Hid (KpF (w.heap.size+7) W7 wr)) (fun x _=>C.length-(intOf x).toNat)
  case atStart=>exact ⟨0,_,_,_,_,Nat.zero_le _,rfl,HDS7,HTK,HV0,HM0,HK0⟩
  clear HDS7 HTK HV0 HM0 HK0
  obtain ⟨j,V',O',g',vo',hj,rfl,hDS,hDF,hV,hM,hK⟩:=hrel
  by_cases hjl:j<C.length
  ·have hj2:(j:Int)<(C.length:Int):=by omega
   have hCR:=ARd.of_fts (hK.out.row _ _ _ HCR7.out)
   have HFRr:=hid (hK.out.row _ _ _ HFR7.out)
   obtain ⟨b,o,c',ev,_,q0,q1,q2⟩:=hCR.ftAt j hjl
   cases ev
   have HXO:=hid (HCO.out _ (List.getElem_mem hjl))
   have HMS:=hid (fun (V'':List (List Ft)) (hs:∀ x∈V',x∈V'') (hx:C[j] ∉ f→opp C[j] ∉ f→f.length<many→∀ m:List Ft,m.Perm (C[j] :: f)→m.Pairwise fLt→m∈V'')=>show ∀ i (hi:i<C.length),i<j+1→C[i] ∉ f→opp C[i] ∉ f→f.length<many→∀ m:List Ft,m.Perm (C[i] :: f)→m.Pairwise fLt→m∈V'' from fun i hi hij h1 h2 h3 m h4 h5=>by
    by_cases e:i=j
    ·subst e;exact hx h1 h2 h3 m h4 h5
    ·exact hs m (hM.out i hi (by omega) h1 h2 h3 m h4 h5))
   obtain ⟨x,hx⟩:∃ x,C[j]=x:=⟨_,rfl⟩
   rw [hx] at q0 q1 q2 HXO HMS
   obtain ⟨x1,x2,x3⟩:=x
   have hkd:=ftOk_kind HXO.out
   simp only at q0 q1 q2 hkd
   have hb8:Below wr.heap.size wr (wr.alloc (.cells #[.int .i64 x1,.int .i64 x2,.int .i64 x3] 74)):=(Below.refl _ wr).alloc (Nat.le_refl _) _
   have HDS8:=hid (hDS.out.later hb8)
   have HFR8:=hid (row_later HFRr.out hb8)
   have HKP8:=hid (hK.out.trans (KpF.below hb8))
   have HXB:=hid (Blk.new wr 74 #[.int .i64 x1,.int .i64 x2,.int .i64 x3])
   clear hx hM hCR HFRr
   go_upto_region 12 with fail
   obtain ⟨X,hX⟩:∃ X,wr.heap.size=X:=⟨_,rfl⟩
   rw [hX] at HXB ⊢
   generalize wr.alloc (.cells #[.int .i64 x1,.int .i64 x2,.int .i64 x3] 74)=W8 at *
   clear hX hb8 q0 q1 q2 hDS hK
   obtain ⟨z0,z1,z2⟩:W8.cell? ⟨X,0,none⟩=some (.int .i64 x1)∧W8.cell? ⟨X,1,none⟩=some (.int .i64 x2)∧W8.cell? ⟨X,2,none⟩=some (.int .i64 x3):=⟨HXB.out.cell 0,HXB.out.cell 1,HXB.out.cell 2⟩
   go_wp2_with fail
   refine (inFaults_any f (.slice fa f.length fc) (x1,x2,x3) W8 (ARd.of_fts HFR8.out) (by omega)).mono ?_
   rintro e W9 ⟨rfl,hb9⟩
   have HDS9:=hid (HDS8.out.later hb9)
   have HFR9:=hid (row_later HFR8.out hb9)
   have HKP9:=hid (HKP8.out.trans (KpF.below hb9))
   have HXB9:=hid (HXB.out.below hb9)
   clear hb9 z0 z1 z2 HDS8 HFR8 HKP8 HXB
   by_cases hin:((x1,x2,x3):Ft)∈f
   ·have d1:decide (((x1,x2,x3):Ft)∈f)=true:=decide_eq_true hin
    have HM2:=hid (HMS.out V' (fun _ h=>h) (fun h=>absurd hin h))
    clear hin HMS
    rw [d1]
    go_wp2
    go_roundw
    case rel=>exact ⟨j+1,V',O',g',vo',by omega,by go_num,HDS9,hDF,hV,HM2,HKP9⟩
    case measure=>simp [intOf];omega
   have d1:decide (((x1,x2,x3):Ft)∈f)=false:=decide_eq_false hin
   have HNI:=hid hin
   rw [d1]
   clear hin d1
   obtain ⟨z0,z1,z2⟩:W9.cell? ⟨X,0,none⟩=some (.int .i64 x1)∧W9.cell? ⟨X,1,none⟩=some (.int .i64 x2)∧W9.cell? ⟨X,2,none⟩=some (.int .i64 x3):=⟨HXB9.out.cell 0,HXB9.out.cell 1,HXB9.out.cell 2⟩
   go_wp2_with fail
   refine (oppR_any x1 x2 x3 W9).mono ?_
   rintro e W10 ⟨rfl,hb10⟩
   have HDSA:=hid (HDS9.out.later hb10)
   have HFRA:=hid (row_later HFR9.out hb10)
   have HKPA:=hid (HKP9.out.trans (KpF.below hb10))
   have HXBA:=hid (HXB9.out.below hb10)
   clear hb10 z0 z1 z2 HDS9 HFR9 HKP9 HXB9
   have HOP:=hid (oppR_is (a:=x2) (t:=x3) hkd)
   obtain ⟨ko,hko⟩:∃ ko,oppR x1=ko:=⟨_,rfl⟩
   rw [hko] at HOP ⊢
   clear hko
   go_wp2_with fail
   refine (inFaults_any f (.slice fa f.length fc) (ko,x2,x3) W10 (ARd.of_fts HFRA.out) (by omega)).mono ?_
   rintro e W11 ⟨rfl,hb11⟩
   have HDSB:=hid (HDSA.out.later hb11)
   have HFRB:=hid (row_later HFRA.out hb11)
   have HKPB:=hid (HKPA.out.trans (KpF.below hb11))
   have HXBB:=hid (HXBA.out.below hb11)
   clear hb11 HDSA HFRA HKPA HXBA
   by_cases hin:((ko,x2,x3):Ft)∈f
   ·have d1:decide (((ko,x2,x3):Ft)∈f)=true:=decide_eq_true hin
    have HM2:=hid (HMS.out V' (fun _ h=>h) (fun _ h=>absurd hin (by rw [HOP.out];exact h)))
    clear hin HMS
    rw [d1]
    go_wp2
    go_roundw
    case rel=>exact ⟨j+1,V',O',g',vo',by omega,by go_num,HDSB,hDF,hV,HM2,HKPB⟩
    case measure=>simp [intOf];omega
   have d1:decide (((ko,x2,x3):Ft)∈f)=false:=decide_eq_false hin
   have HNO:=hid (show opp (x1,x2,x3) ∉ f from by rw [← HOP.out];exact hin)
   rw [d1]
   clear hin d1 HOP
   go_upto_region 13 with fail
   obtain ⟨A,hA⟩:∃ A,W11=A:=⟨_,rfl⟩
   rw [hA] at HDSB HFRB HKPB HXBB ⊢
   clear hA
   have HRM:=hid (show ∀ (v:Value) (w w':World),w.ownsRow A.heap.size 74 3 v f.length (ftCs f)→Below w.heap.size w w'→w'.ownsRow A.heap.size 74 3 v f.length (ftCs f) from fun _ _ _ h hb=>row_later h hb)
   have HRM3:=hid (show ∀ (v:Value) (w w':World),(∀ bb,v = .slice (some ⟨bb,0,none⟩) 1 1→Blk w bb 74 #[.int .i64 x1,.int .i64 x2,.int .i64 x3])→Below w.heap.size w w'→∀ bb,v = .slice (some ⟨bb,0,none⟩) 1 1→Blk w' bb 74 #[.int .i64 x1,.int .i64 x2,.int .i64 x3] from fun _ _ _ h hb bb e=>(h bb e).below hb)
   have hmxx:Tryz.prog.follows .mixedOrders=true:=by kernel_rfl
   refine wp_normal (wp_region_flowJ (fun xX=>{ tmps:=#[.slice fa f.length fc,.pointer (some ⟨w.heap.size+4,0,none⟩),.pointer (some ⟨w.heap.size+2,0,none⟩),.pointer (some ⟨w.heap.size,0,none⟩),.pointer (some ⟨w.heap.size+1,0,none⟩),.pointer (some ⟨w.heap.size+5,0,none⟩),.pointer (some ⟨w.heap.size+6,0,none⟩),undef,.pointer (some ⟨K,0,none⟩),.pointer (some ⟨W2.heap.size,0,none⟩),.bool false,.int .i64 n,.pointer (some ⟨PB,0,none⟩),undef,.pointer (some ⟨X,0,none⟩),(xX 15),.slice (some ⟨K,0,none⟩) 3 3,.slice fa f.length fc,v',.tuple #[.agg #[],.bool false],.map (some (w.heap.size+3)),.agg #[.int .i64 a1,.int .i64 a2,.int .i64 a3,.int .i64 b1,.int .i64 b2,.int .i64 b3,.int .i64 c1,.int .i64 c2,.int .i64 c3],.tuple #[.agg #[],.bool false],.agg #[],.bool false,.bool false,.bool false,.slice fa f.length fc,.int .i64 (f.length:Int),.int .i64 (many:Int),.bool false,.bool false,.map (some (w.heap.size+3)),.agg #[.int .i64 a1,.int .i64 a2,.int .i64 a3,.int .i64 b1,.int .i64 b2,.int .i64 b3,.int .i64 c1,.int .i64 c2,.int .i64 c3],.agg #[],.tuple #[.int .i64 n,.agg #[.int .i64 p1,.int .i64 p2]],.agg #[v1,v2,v3,v4],.slice fa f.length fc,.slice at' L.length ct,.tuple #[.int .i64 n,.agg #[.int .i64 p1,.int .i64 p2]],.int .i64 n,.agg #[.int .i64 p1,.int .i64 p2],.int .i64 n,.bool false,undef,undef,undef,undef,undef,undef,undef,undef,.agg #[v1,v2,v3,v4],.agg #[.int .i64 p1,.int .i64 p2],.slice (some ⟨b,o,none⟩) C.length un,.int .i64 (C.length:Int),.int .i64 (j:Int),.bool true,.pointer (some ⟨b,o+j * 3,none⟩),.agg #[.int .i64 x1,.int .i64 x2,.int .i64 x3],.slice fa f.length fc,.agg #[.int .i64 x1,.int .i64 x2,.int .i64 x3],.bool false,.bool false,.slice fa f.length fc,.agg #[.int .i64 x1,.int .i64 x2,.int .i64 x3],.agg #[.int .i64 ko,.int .i64 x2,.int .i64 x3],.bool false,.bool false,(xX 69),(xX 70),(xX 71),(xX 72),(xX 73),u74,u75,u76,u77,u78,u79],defers:=[] }) (fun iI v z=>match iI with
    | 0=>v = .slice fa f.length fc
    | 1=>∃ (a9:Option Addr) (c9:Nat),v = .slice a9 f.length c9∧True
    | 2=>v = .agg #[.int .i64 x1,.int .i64 x2,.int .i64 x3]
    | 3=>∃ (bb:Nat),v = .slice (some ⟨bb,0,none⟩) 1 1∧True
    | 4=>∃ (gg cap:Nat),v = .slice (some ⟨gg,0,none⟩) (f.length+1) cap∧z.ownsRow A.heap.size 74 3 (.slice (some ⟨gg,0,none⟩) (f.length+1) cap) (f.length+1) (ftCs f++[.int .i64 x1,.int .i64 x2,.int .i64 x3])∧Below A.heap.size A z
    | 5=>True
    | _=>True) (JR 1 4 70 (fun v z=>z.ownsRow A.heap.size 74 3 v f.length (ftCs f)) (JR 3 4 72 (fun v z=>∀ bb,v = .slice (some ⟨bb,0,none⟩) 1 1→Blk z bb 74 #[.int .i64 x1,.int .i64 x2,.int .i64 x3]) (JA 4 5 A (fun xX z=>∃ (gg cap:Nat),xX 15 = .slice (some ⟨gg,0,none⟩) (f.length+1) cap∧z.ownsRow A.heap.size 74 3 (.slice (some ⟨gg,0,none⟩) (f.length+1) cap) (f.length+1) (ftCs f++[.int .i64 x1,.int .i64 x2,.int .i64 x3])∧Below A.heap.size A z)))) (fun n=>(#[.slice fa f.length fc,.pointer (some ⟨w.heap.size+4,0,none⟩),.pointer (some ⟨w.heap.size+2,0,none⟩),.pointer (some ⟨w.heap.size,0,none⟩),.pointer (some ⟨w.heap.size+1,0,none⟩),.pointer (some ⟨w.heap.size+5,0,none⟩),.pointer (some ⟨w.heap.size+6,0,none⟩),undef,.pointer (some ⟨K,0,none⟩),.pointer (some ⟨W2.heap.size,0,none⟩),.bool false,.int .i64 n,.pointer (some ⟨PB,0,none⟩),undef,.pointer (some ⟨X,0,none⟩),u15,.slice (some ⟨K,0,none⟩) 3 3,.slice fa f.length fc,v',.tuple #[.agg #[],.bool false],.map (some (w.heap.size+3)),.agg #[.int .i64 a1,.int .i64 a2,.int .i64 a3,.int .i64 b1,.int .i64 b2,.int .i64 b3,.int .i64 c1,.int .i64 c2,.int .i64 c3],.tuple #[.agg #[],.bool false],.agg #[],.bool false,.bool false,.bool false,.slice fa f.length fc,.int .i64 (f.length:Int),.int .i64 (many:Int),.bool false,.bool false,.map (some (w.heap.size+3)),.agg #[.int .i64 a1,.int .i64 a2,.int .i64 a3,.int .i64 b1,.int .i64 b2,.int .i64 b3,.int .i64 c1,.int .i64 c2,.int .i64 c3],.agg #[],.tuple #[.int .i64 n,.agg #[.int .i64 p1,.int .i64 p2]],.agg #[v1,v2,v3,v4],.slice fa f.length fc,.slice at' L.length ct,.tuple #[.int .i64 n,.agg #[.int .i64 p1,.int .i64 p2]],.int .i64 n,.agg #[.int .i64 p1,.int .i64 p2],.int .i64 n,.bool false,undef,undef,undef,undef,undef,undef,undef,undef,.agg #[v1,v2,v3,v4],.agg #[.int .i64 p1,.int .i64 p2],.slice (some ⟨b,o,none⟩) C.length un,.int .i64 (C.length:Int),.int .i64 (j:Int),.bool true,.pointer (some ⟨b,o+j * 3,none⟩),.agg #[.int .i64 x1,.int .i64 x2,.int .i64 x3],.slice fa f.length fc,.agg #[.int .i64 x1,.int .i64 x2,.int .i64 x3],.bool false,.bool false,.slice fa f.length fc,.agg #[.int .i64 x1,.int .i64 x2,.int .i64 x3],.agg #[.int .i64 ko,.int .i64 x2,.int .i64 x3],.bool false,.bool false,u69,u70,u71,u72,u73,u74,u75,u76,u77,u78,u79]:Array Value).getD n undef) rfl hmxx (by kernel_rfl) (by kernel_rfl) (jr_start (of_decide_eq_true (by kernel_rfl)) (jr_start (of_decide_eq_true (by kernel_rfl)) (ja_start (of_decide_eq_true (by kernel_rfl))))) (jr_cong (of_decide_eq_true (by kernel_rfl)) (of_decide_eq_true (by kernel_rfl)) (jr_cong (of_decide_eq_true (by kernel_rfl)) (of_decide_eq_true (by kernel_rfl)) (fun ℓ ℓ' xX w h hj=>ja_cong (of_decide_eq_true (by kernel_rfl)) (of_decide_eq_true (by kernel_rfl)) ℓ ℓ' xX w h hj))) ?put ?step ?done)
   case put =>
    intro iI oO dD ho hd xX vV
    match iI,ho with
    | 0,ho | 1,ho | 2,ho | 3,ho | 4,ho | 5,ho => obtain rfl:=oj ho;obtain rfl:=oj hd;rfl
    | n+6,ho=>exact absurd (Array.getElem?_eq_some_iff.1 ho).1 (by simp)
   case step =>
    intro iI oO ho ℓ xX z hj hli hup hdl hdep K hK
    match iI,ho with
    | 0,ho =>
     obtain rfl:=oj ho
     have hls:ℓ 5=false:=hup 12 5 (by kernel_rfl)
     have hPl:=fun (vv:Value) w' (hb:Below z.heap.size z w')=>jr_plain HRM.out hj (jr_plain HRM3.out hj.1 (ja_plain (i:=0) (x':=putX xX (some 69) vv) hj.1.1 (by decide) (by decide) hls hb) (by decide) (by decide) (by decide) hb) (by decide) (by decide) (by decide) hb
     clear hdep ho hup
     dsimp only at hK ⊢
     refine wpOp_step rfl (fun K2 hK2=>?_)
     go_simp
     exact hK2 _ _ (hK _ _ (hPl _ _ (Below.refl _ _)) (fun _ _ _ _ h=>h) rfl)
    | 1,ho =>
     obtain rfl:=oj ho
     have q0:xX 69 = .slice fa f.length fc:=hdep 0 (by kernel_rfl) _ _ rfl rfl
     have hls:ℓ 5=false:=hup 12 5 (by kernel_rfl)
     have hz:=hj.1.1.1 (hup 12 4 (by kernel_rfl))
     clear hdep ho hup
     dsimp only at hK ⊢
     simp only [q0] at hK ⊢
     refine wpOp_step rfl (fun K2 hK2=>?_)
     go_simp
     refine (cloneF_any f (by omega) (w.heap.size+7) (.slice fa f.length fc) z (row_later HFRB.out hz)).mono ?_
     rintro e z1 ⟨uu,rfl,hr,hb⟩
     obtain ⟨a9,c9,rfl⟩:=own_form hr
     refine hK2 _ _ (hK _ _ (jr_here (jr_plain HRM3.out hj.1 (ja_plain (i:=1) (x':=putX xX (some 70) (Value.slice a9 f.length c9)) hj.1.1 (by decide) (by decide) hls hb) (by decide) (by decide) (by decide) hb) (row_base hr hz.size)) ?_ ⟨a9,c9,rfl,trivial⟩)
     intro jj v' hlj hp h
     match jj,hlj,hp,h with
     | 0,hlj,hp,h=>exact h
     | 1,hlj,hp,h=>exact h
     | 2,hlj,hp,h=>exact h
     | 3,hlj,hp,h=>exact h
     | 4,hlj,hp,h=>obtain ⟨b,c,e,r,l⟩:=h;exact ⟨b,c,e,row_later r hb,below_step l hb⟩
     | 5,hlj,hp,h=>exact h
     | _+6,_,_,_=>trivial
    | 2,ho =>
     obtain rfl:=oj ho
     have hls:ℓ 5=false:=hup 12 5 (by kernel_rfl)
     have hPl:=fun (vv:Value) w' (hb:Below z.heap.size z w')=>jr_plain HRM.out hj (jr_plain HRM3.out hj.1 (ja_plain (i:=2) (x':=putX xX (some 71) vv) hj.1.1 (by decide) (by decide) hls hb) (by decide) (by decide) (by decide) hb) (by decide) (by decide) (by decide) hb
     have hz:=hj.1.1.1 (hup 12 4 (by kernel_rfl))
     obtain ⟨c0,c1,c2⟩:z.cell? ⟨X,0,none⟩=some (.int .i64 x1)∧z.cell? ⟨X,1,none⟩=some (.int .i64 x2)∧z.cell? ⟨X,2,none⟩=some (.int .i64 x3):=⟨(HXBB.out.below hz).cell 0,(HXBB.out.below hz).cell 1,(HXBB.out.below hz).cell 2⟩
     clear hdep ho hup
     dsimp only at hK ⊢
     refine wpOp_step rfl (fun K2 hK2=>?_)
     go_simp
     exact hK2 _ _ (hK _ _ (hPl _ _ (Below.refl _ _)) (fun _ _ _ _ h=>h) rfl)
    | 3,ho =>
     obtain rfl:=oj ho
     have q2:xX 71 = .agg #[.int .i64 x1,.int .i64 x2,.int .i64 x3]:=hdep 2 (by kernel_rfl) _ _ rfl rfl
     have hls:ℓ 5=false:=hup 12 5 (by kernel_rfl)
     clear hdep ho hup
     dsimp only at hK ⊢
     simp only [q2] at hK ⊢
     refine wpOp_step rfl (fun K2 hK2=>?_)
     go_simp
     have hb:Below z.heap.size z (z.alloc (.cells #[.int .i64 x1,.int .i64 x2,.int .i64 x3] 74)):=(Below.refl _ _).alloc (Nat.le_refl _) _
     refine hK2 _ _ (hK _ _ (jr_plain HRM.out hj (jr_here (ja_plain (i:=3) (x':=putX xX (some 72) (Value.slice (some ⟨z.heap.size,0,none⟩) 1 1)) hj.1.1 (by decide) (by decide) hls hb) (fun b e=>by cases e;exact Blk.new z _ _)) (by decide) (by decide) (by decide) hb) ?_ ⟨z.heap.size,rfl,trivial⟩)
     intro jj v' hlj hp h
     match jj,hlj,hp,h with
     | 0,hlj,hp,h=>exact h
     | 1,hlj,hp,h=>exact h
     | 2,hlj,hp,h=>exact h
     | 3,hlj,hp,h=>exact h
     | 4,hlj,hp,h=>obtain ⟨b,c,e,r,l⟩:=h;exact ⟨b,c,e,row_later r hb,below_step l hb⟩
     | 5,hlj,hp,h=>exact h
     | _+6,_,_,_=>trivial
    | 4,ho =>
     obtain rfl:=oj ho
     have h1:∃ (a9:Option Addr) (c9:Nat),xX 70 = .slice a9 f.length c9∧True:=hdep 1 (by kernel_rfl) _ _ rfl rfl
     obtain ⟨a9,c9,q1,_⟩:=h1
     have h3:∃ (bb:Nat),xX 72 = .slice (some ⟨bb,0,none⟩) 1 1∧True:=hdep 3 (by kernel_rfl) _ _ rfl rfl
     obtain ⟨bb,q3,_⟩:=h3
     have hz:=hj.1.1.1 hli
     have hls:ℓ 5=false:=hup 12 5 (by kernel_rfl)
     have r1:=hj.2 (hdl 1 1 (by kernel_rfl)) hli
     have k3:=hj.1.2 (hdl 1 3 (by kernel_rfl)) hli bb q3
     rw [q1] at r1
     clear hdep ho hup
     dsimp only at hK ⊢
     simp only [q1,q3] at hK ⊢
     refine wpOp_step rfl (fun K2 hK2=>?_)
     refine step_append_lies _ rfl _ _ 28 rfl A.heap.size 74 i0 _ 3 24 Tryz.underlying28 hi0 hz0 hz1 hz2 rfl (by omega) _ _ _ rfl r1 ⟨bb,0,none⟩ 1 1 [.int .i64 x1,.int .i64 x2,.int .i64 x3] rfl rfl (fun jj u hu=>match jj,hu with | 0,hu=>by cases hu;exact k3.cell 0 | 1,hu=>by cases hu;exact k3.cell 1 | 2,hu=>by cases hu;exact k3.cell 2 | _+3,hu=>by cases hu) (by simp [Value.oneCell']) (by omega) (by unfold maxLen;omega) (by omega) hz.size z.heap.size rfl ?_
     intro gg cap w3 hown hgrow hat hlt
     refine hK2 _ _ (hK _ _ (jr_past (jr_past (ja_mid (by decide) hls) (by rw [setB,if_pos rfl])) (by rw [setB,if_pos rfl])) ?_ ⟨gg,cap,rfl,hown,hz.grown hgrow hz.size (fun _ e=>row_ge r1 e)⟩)
     intro jj v' hlj hp h
     match jj,hlj,hp,h with
     | 0,hlj,hp,h=>exact h
     | 1,hlj,hp,h=>exact h
     | 2,hlj,hp,h=>exact h
     | 3,hlj,hp,h=>exact h
     | 4,hlj,hp,h=>rw [hli] at hlj;cases hlj
     | 5,hlj,hp,h=>exact h
     | _+6,_,_,_=>trivial
    | 5,ho =>
     obtain rfl:=oj ho
     have h4:∃ (gg cap:Nat),xX 73 = .slice (some ⟨gg,0,none⟩) (f.length+1) cap∧z.ownsRow A.heap.size 74 3 (.slice (some ⟨gg,0,none⟩) (f.length+1) cap) (f.length+1) (ftCs f++[.int .i64 x1,.int .i64 x2,.int .i64 x3])∧Below A.heap.size A z:=hdep 4 (by kernel_rfl) _ _ rfl rfl
     obtain ⟨gg,cap,q4,r4,b4⟩:=h4
     clear hdep ho hup
     dsimp only at hK ⊢
     simp only [q4] at hK ⊢
     refine wpOp_step rfl (fun K2 hK2=>?_)
     go_simp
     exact hK2 _ _ (hK _ _ (jr_past (jr_past (ja_last (.inr (hdl 1 4 (by kernel_rfl))) ⟨gg,cap,rfl,r4,b4⟩) (by rw [setB,if_neg (by decide)];exact hdl 1 4 (by kernel_rfl))) (by rw [setB,if_neg (by decide)];exact hdl 1 4 (by kernel_rfl))) (fun _ _ _ hp _=>absurd hp (lastB_spec (by kernel_rfl) hdl)) trivial)
    | n+6,ho=>exact absurd (Array.getElem?_eq_some_iff.1 ho).1 (by simp)
   case done =>
    intro ℓ xX z hall hj
    have hf:=hj.1.1.2 (hall 5 (of_decide_eq_true (by kernel_rfl)))
    obtain ⟨gg,cap,q15,r15,b15⟩:=hf
    have e15:ftCs f++[.int .i64 x1,.int .i64 x2,.int .i64 x3]=ftCs (f++[(x1,x2,x3)]):=(ftCs_snoc f (x1,x2,x3)).symm
    have r16:z.ownsRow A.heap.size 74 3 (.slice (some ⟨gg,0,none⟩) (f.length+1) cap) (f++[((x1,x2,x3):Ft)]).length (ftCs (f++[(x1,x2,x3)])):=by
     rw [← e15,List.length_append,List.length_singleton]
     exact r15
    have HSO:=hid (sortFt_any (f++[(x1,x2,x3)]) (by rw [List.length_append,List.length_singleton];omega) A.heap.size _ z r16)
    have HGE:=hid (fun k e=>row_ge r16 (j:=k) e)
    have HBZ:=hid b15
    dsimp only
    simp only [q15]
    clear hj hall r15 r16 b15 e15 q15
    go_wp2_with fail
    refine HSO.out.mono ?_
    rintro e W14 ⟨rfl,m,hperm,hpw,hrm,hgm⟩
    have hb14:Below A.heap.size A W14:=HBZ.out.grown hgm HBZ.out.size HGE.out
    have HDSE:=hid (HDSB.out.later hb14)
    have HKPE:=hid (HKPB.out.trans (KpF.below hb14))
    have hpx:m.Perm ((x1,x2,x3) :: f):=hperm.trans (List.perm_append_singleton _ _)
    have hml:m.length=f.length+1:=hpx.length_eq
    have hmst:m.Pairwise fLt:=strictF hpw (hpx.nodup_iff.2 (List.nodup_cons.2 ⟨HNI.out,fts_nodup HOF.out.asc⟩))
    have hmok:FtsOk S m:=fts_more HOF.out HXO.out HNO.out hpx hmst
    have HAL:=hid (HIH.out (by omega) m hml (.slice (some ⟨gg,0,none⟩) (f.length+1) cap) (f :: St) V' O' g' vo' W14 hmok (row_base hrm (by have:=HDSB.out.ad.lt;omega)) HDSE.out hDF.out)
    have HON:=hid (fun (m':List Ft) (h1:m'.Perm ((x1,x2,x3) :: f)) (h2:m'.Pairwise fLt)=>show m'=m from fts_one h2 hmst (fun y=>h1.mem_iff.trans hpx.mem_iff.symm))
    have HML:=hid hml
    have a0:W14.cell? ⟨w.heap.size+6,0,none⟩=some (.func (.func 68) #[] #[.pointer (some ⟨w.heap.size+4,0,none⟩),.pointer (some ⟨w.heap.size+2,0,none⟩),.pointer (some ⟨w.heap.size,0,none⟩),.pointer (some ⟨w.heap.size+1,0,none⟩),.pointer (some ⟨w.heap.size+5,0,none⟩),.pointer (some ⟨w.heap.size+6,0,none⟩)]):=HDSE.out.ad.cell 0
    clear hperm hpw hrm hgm hb14 hpx hml hmst hmok HSO HGE HBZ HDSB HKPB HXBB hDF HIH
    go_wp2_with fail
    refine HAL.out.mono ?_
    rintro e W15 ⟨rfl,V2,O2,g2,vo2,hds2,hdf2,hv2,hm2,hk2⟩
    have HDSF:=hid hds2
    have HDFF:=hid hdf2
    have HVF:=hid (fun x hx=>hv2 x (hV.out x hx))
    have HMF:=hid (HMS.out V2 hv2 (fun _ _ hlt m' hp' hpw'=>by rw [HON.out m' hp' hpw'];exact hm2 (by have:=HML.out;omega)))
    have HKF:=hid (HKPE.out.trans hk2)
    clear hds2 hdf2 hv2 hm2 hk2 HAL a0
    go_wp2
    go_roundw
    case rel=>exact ⟨j+1,V2,O2,g2,vo2,by omega,by go_num,HDSF,HDFF,HVF,HMF,HKF⟩
    case measure=>simp [intOf];omega
  ·have hj2:¬ (j:Int)<(C.length:Int):=by omega
   have hje:j=C.length:=by omega
   have HLV:=hid (hDF.out.leave (fun hlt=>HLD.out V' (fun x hx h1 h2 m h4 h5=>by
    obtain ⟨i,hi,rfl⟩:=List.getElem_of_mem hx
    exact hM.out i hi (by omega) h1 h2 hlt m h4 h5)))
   clear hje hM HLD
   go_wp2
   refine bodyPost_ret (results_none rfl _ _ _) rfl ?_
   exact ⟨rfl,V',O',g',vo',hDS.out,HLV.out,fun x hx=>hV.out x (List.mem_append_left _ hx),fun _=>hV.out f (List.mem_append_right _ (List.mem_singleton.2 rfl)),HKP7.out.trans hK.out⟩
theorem dsAdd_any (v1 v2 v3 v4:Value) (S:Sp) (ok:SpWk S) (hc:(checkP S).2=0) (fp:Nat→Value) (L:List Tl) (hL:∀ t∈L,HnOk S t.h∧t.l.Pairwise ppLt∧∀ p∈t.l,p∈allFrom 0 S.rs) (hll:L.length≤20) (tv:Value) (gk gs gc gh:Nat→Value) (B:(Th→Int)→Pp→Bool) (hB:SndIs S B) (many:Nat) (hm3:many≤3) (w:World) (hD:Deb w) (ht:Tabs w) (hsp:SpRd w v1 v2 v3 v4 fp S) (hcap:∀ i,i<S.ss.length→CapOk (fp i)) (htv:TlRd w tv L gk gs gc gh) :
  ∀ (d:Nat) (f:List Ft),f.length+d=many+1→DsC w v1 v2 v3 v4 tv many S B (trs L) f
 | 0,f,h => add_step v1 v2 v3 v4 S ok hc fp L hL hll tv gk gs gc gh B hB many hm3 w hD ht hsp hcap htv f (by omega) (fun hl=>absurd h (by omega))
 | d+1,f,h=>add_step v1 v2 v3 v4 S ok hc fp L hL hll tv gk gs gc gh B hB many hm3 w hD ht hsp hcap htv f (by omega) (fun _ m hm=>dsAdd_any v1 v2 v3 v4 S ok hc fp L hL hll tv gk gs gc gh B hB many hm3 w hD ht hsp hcap htv d m (by omega))
structure StO (base:Nat) (W:World) (v:Value) (M:List (List Ft)) (g:Nat→Value):Prop where
 row:W.ownsRow base 28 1 v M.length ((List.range M.length).map g)
 st:∀ i (hi:i<M.length),W.ownsRow base 74 3 (g i) M[i].length (ftCs M[i])
theorem StO.later {base:Nat} {W W':World} {v:Value} {M:List (List Ft)} {g:Nat→Value} (h:StO base W v M g) (hb:Below W.heap.size W W'):StO base W' v M g:=⟨row_later h.row hb,fun i hi=>row_later (h.st i hi) hb⟩
theorem StO.base {base base':Nat} {W:World} {v:Value} {M:List (List Ft)} {g:Nat→Value} (h:StO base W v M g) (hb:base'≤base):StO base' W v M g:=⟨row_base h.row hb,fun i hi=>row_base (h.st i hi) hb⟩
theorem StO.rd {base:Nat} {W:World} {v:Value} {M:List (List Ft)} {g:Nat→Value} (h:StO base W v M g):StsRd W v M g :=
 ⟨ARd.of_row (by intro r hr;obtain ⟨x,_,rfl⟩:=List.mem_map.1 hr;rfl) (by
  have e:((List.range M.length).map fun i=>[g i]).flatten=(List.range M.length).map g:=by
   generalize List.range M.length=l
   induction l with
   | nil=>rfl
   | cons a l ih=>rw [List.map_cons,List.flatten_cons,ih];rfl
  rw [e,List.length_map,List.length_range]
  exact h.row),fun i hi=>ARd.of_fts (h.st i hi)⟩
def dsW0 (w:World) (v1 v2 v3 v4 tv:Value) (many:Nat):World:=((((((w.alloc (.cells #[v1,v2,v3,v4] 27)).alloc (.cells #[tv] 33)).alloc (.cells #[.int .i64 many] 3)).alloc (.map #[] 0)).alloc (.cells #[.map (some (w.heap.size+1+1+1))] 110)).alloc (.cells #[.slice none 0 0] 43)).alloc (.cells #[.nilFunc] 111)
theorem ds_ad (w:World) (v1 v2 v3 v4 tv:Value) (many:Nat):Blk (dsW0 w v1 v2 v3 v4 tv many) (w.heap.size+6) 111 #[.nilFunc]:=by
 have h:=Blk.new ((((((w.alloc (.cells #[v1,v2,v3,v4] 27)).alloc (.cells #[tv] 33)).alloc (.cells #[.int .i64 many] 3)).alloc (.map #[] 0)).alloc (.cells #[.map (some (w.heap.size+1+1+1))] 110)).alloc (.cells #[.slice none 0 0] 43)) 111 #[.nilFunc]
 simp only [World.size_alloc] at h
 exact h
theorem ds_start (w:World) (v1 v2 v3 v4 tv:Value) (many:Nat) (g:Nat→Value):DsW w v1 v2 v3 v4 tv many [] [] g (.slice none 0 0) ((dsW0 w v1 v2 v3 v4 tv many).setCell ⟨w.heap.size+6,0,none⟩ (dsFn w.heap.size)):=by
 have k0:=Blk.new w 27 #[v1,v2,v3,v4]
 have k1:=Blk.new (w.alloc (.cells #[v1,v2,v3,v4] 27)) 33 #[tv]
 have k2:=Blk.new ((w.alloc (.cells #[v1,v2,v3,v4] 27)).alloc (.cells #[tv] 33)) 3 #[.int .i64 many]
 have k3:=Mp.made (ek:=ekT) (((w.alloc (.cells #[v1,v2,v3,v4] 27)).alloc (.cells #[tv] 33)).alloc (.cells #[.int .i64 many] 3))
 have k4:=Blk.new ((((w.alloc (.cells #[v1,v2,v3,v4] 27)).alloc (.cells #[tv] 33)).alloc (.cells #[.int .i64 many] 3)).alloc (.map #[] 0)) 110 #[.map (some (w.heap.size+1+1+1))]
 have k5:=Blk.new (((((w.alloc (.cells #[v1,v2,v3,v4] 27)).alloc (.cells #[tv] 33)).alloc (.cells #[.int .i64 many] 3)).alloc (.map #[] 0)).alloc (.cells #[.map (some (w.heap.size+1+1+1))] 110)) 43 #[.slice none 0 0]
 simp only [World.size_alloc] at k1 k2 k3 k4 k5
 have hb:Below w.heap.size w (dsW0 w v1 v2 v3 v4 tv many):=((((((((Below.refl _ w).alloc (Nat.le_refl _) _).alloc (by simp) _).alloc (by simp;omega) _).alloc (by simp;omega) _).alloc (by simp;omega) _).alloc (by simp;omega) _).alloc (by simp;omega) _)
 have hs:=set_grown (dsW0 w v1 v2 v3 v4 tv many) (w.heap.size+6) 0 (dsFn w.heap.size)
 have al:∀ {W:World} {o:Obj},Below W.heap.size W (W.alloc o):=fun {W o}=>(Below.refl _ W).alloc (Nat.le_refl _) _
 refine ⟨hb.setCell (Nat.le_add_right _ _) _,Blk.grown (W:=dsW0 w v1 v2 v3 v4 tv many) ((((((k0.alloc _).alloc _).alloc _).alloc _).alloc _).alloc _) hs (fun e=>by have:=Option.some.inj e;omega),Blk.grown (W:=dsW0 w v1 v2 v3 v4 tv many) (((((k1.alloc _).alloc _).alloc _).alloc _).alloc _) hs (fun e=>by have:=Option.some.inj e;omega),Blk.grown (W:=dsW0 w v1 v2 v3 v4 tv many) ((((k2.alloc _).alloc _).alloc _).alloc _) hs (fun e=>by have:=Option.some.inj e;omega),Blk.grown (W:=dsW0 w v1 v2 v3 v4 tv many) ((k4.alloc _).alloc _) hs (fun e=>by have:=Option.some.inj e;omega),Blk.grown (W:=dsW0 w v1 v2 v3 v4 tv many) (k5.alloc _) hs (fun e=>by have:=Option.some.inj e;omega),(ds_ad w v1 v2 v3 v4 tv many).set 0 _,Mp.kept (W:=dsW0 w v1 v2 v3 v4 tv many) (((k3.below al).below al).below al) hs (fun e=>by have:=Option.some.inj e;omega),World.ownsRow_nil _ _ _ _,fun i hi=>absurd hi (Nat.not_lt_zero i)⟩
def SetE (P:List (List Ft)→Prop) (w:World) (e:Ending) (w':World):Prop:=∃ v M g,e = .returned v∧P M∧StO w.heap.size w' v M g∧Below w.heap.size w w'
theorem map_all {O:List (List Ft)}:(List.finRange O.length).map (fun i:Fin O.length=>O[i])=O:=by
 apply List.ext_getElem
 ·simp
 ·intro i h1 h2
  simp
theorem sorted_sets {w W W':World} {v1 v2 v3 v4 tv:Value} {many:Nat} {V O:List (List Ft)} {g:Nat→Value} {vo:Value} (h:DsW w v1 v2 v3 v4 tv many V O g vo W) {p:List (Fin O.length)} (hr:W'.ownsRow (w.heap.size+7) 28 1 vo p.length (p.map fun i:Fin O.length=>g i.1)) (hg:W.grownBy W' vo.ownBlock) :
  ∃ g',StO w.heap.size W' vo (p.map fun i=>O[i]) g':=by
 have hl:(p.map fun i=>O[i]).length=p.length:=List.length_map _
 refine ⟨fun k=>((p.map fun i:Fin O.length=>g i.1)[k]?).getD .nilFunc,?_,fun i hi=>?_⟩
 ·have e:((List.range (p.map fun i=>O[i]).length).map fun k=>((p.map fun i:Fin O.length=>g i.1)[k]?).getD .nilFunc)=p.map fun i:Fin O.length=>g i.1:=by
   apply List.ext_getElem
   ·simp
   ·intro i h1 h2
    simp only [List.getElem_map,List.getElem_range]
    rw [List.getElem?_map,List.getElem?_eq_getElem (by simpa using h2)]
    rfl
  rw [e,hl]
  exact row_base hr (Nat.le_add_right _ _)
 ·have hi':i<p.length:=by rw [← hl];exact hi
  have e1:((p.map fun i:Fin O.length=>g i.1)[i]?).getD .nilFunc=g p[i].1:=by rw [List.getElem?_map,List.getElem?_eq_getElem hi'];rfl
  have e2:(p.map fun i=>O[i])[i]=O[p[i].1]:=by rw [List.getElem_map];rfl
  simp only [e1,e2]
  exact row_base ((h.st p[i].1 p[i].2).kept hg (row_apart (h.st p[i].1 p[i].2) h.row (by decide))) (Nat.le_add_right _ _)
theorem setsD_any (v1 v2 v3 v4:Value) (S:Sp) (ok:SpWk S) (hc:(checkP S).2=0) (fp:Nat→Value) (L:List Tl) (hL:∀ t∈L,HnOk S t.h∧t.l.Pairwise ppLt∧∀ p∈t.l,p∈allFrom 0 S.rs) (hll:L.length≤20) (tv:Value) (gk gs gc gh:Nat→Value) (B:(Th→Int)→Pp→Bool) (hB:SndIs S B) (many:Nat) (hm3:many≤3) (hmin:∀ g,FtsOk S g→g.length<many→¬ Exps S B g (trs L)) (w:World) (hD:Deb w) (ht:Tabs w) (hsp:SpRd w v1 v2 v3 v4 fp S) (hcap:∀ i,i<S.ss.length→CapOk (fp i)) (htv:TlRd w tv L gk gs gc gh) :
  Calls Tryz.prog 34 #[.agg #[v1,v2,v3,v4],tv,.int .i64 many] w (SetE (SetsP S B (trs L) many) w):=by
 obtain ⟨at',ct,ev⟩:=htv.form
 subst ev
 have HAD:=hid (dsAdd_any v1 v2 v3 v4 S ok hc fp L hL hll (.slice at' L.length ct) gk gs gc gh B hB many hm3 w hD ht hsp hcap htv (many+1) [] (by simp))
 have HDO:=hid (fun (V O:List (List Ft)) (h:DfI S B (trs L) many [] V O) (hn:[]∈V)=>dfi_done hB h hn hmin)
 have HLE:=hid (fun (V O:List (List Ft)) (h:DfI S B (trs L) many [] V O)=>h.len hc hm3)
 have hmm:=@run_makeMap Tryz.prog
 clear ok hc hL hB hD ht hsp hcap htv hmin
 go_enter Tryz.func34,Tryz.ntmps34
 go_upto_region 4 with fail
 have had:=ds_ad w v1 v2 v3 v4 (.slice at' L.length ct) many
 have h0:(dsW0 w v1 v2 v3 v4 (.slice at' L.length ct) many).cell? ⟨w.heap.size+6,0,none⟩=some .nilFunc:=had.cell 0
 have h1:=had.frozen 0
 have HST:=hid (ds_start w v1 v2 v3 v4 (.slice at' L.length ct) many (fun _ => .nilFunc))
 change Code.wp _ _ _ _ (dsW0 w v1 v2 v3 v4 (.slice at' L.length ct) many)
 generalize dsW0 w v1 v2 v3 v4 (.slice at' L.length ct) many=W0 at *
 clear had
 change Code.wp _ _ _ { tmps:=#[.agg #[v1,v2,v3,v4],.slice at' L.length ct,.int .i64 many,.pointer (some ⟨w.heap.size,0,none⟩),.pointer (some ⟨w.heap.size+1,0,none⟩),.pointer (some ⟨w.heap.size+2,0,none⟩),.slice none 0 0,.pointer (some ⟨w.heap.size+4,0,none⟩),.pointer (some ⟨w.heap.size+5,0,none⟩),.pointer (some ⟨w.heap.size+6,0,none⟩),.map (some (w.heap.size+3)),undef,undef,undef,undef,undef,undef],defers:=[] } W0
 go_upto_region 5 with fail
 change Code.wp _ _ _ _ (W0.setCell ⟨w.heap.size+6,0,none⟩ (dsFn w.heap.size))
 have hsz:w.heap.size+7≤(W0.setCell ⟨w.heap.size+6,0,none⟩ (dsFn w.heap.size)).heap.size:=HST.out.ad.lt
 generalize W0.setCell ⟨w.heap.size+6,0,none⟩ (dsFn w.heap.size)=W1 at *
 clear h0 h1
 have a0:W1.cell? ⟨w.heap.size+6,0,none⟩=some (.func (.func 68) #[] #[.pointer (some ⟨w.heap.size+4,0,none⟩),.pointer (some ⟨w.heap.size+2,0,none⟩),.pointer (some ⟨w.heap.size,0,none⟩),.pointer (some ⟨w.heap.size+1,0,none⟩),.pointer (some ⟨w.heap.size+5,0,none⟩),.pointer (some ⟨w.heap.size+6,0,none⟩)]):=HST.out.ad.cell 0
 go_wp2_with fail
 refine (HAD.out (.slice none 0 0) [] [] [] (fun _ => .nilFunc) (.slice none 0 0) W1 ⟨List.Pairwise.nil,fun x h=>(by cases h),fun x h=>(by cases h)⟩ (World.ownsRow_nil _ _ _ _) HST.out (DfI.zero S B (trs L) many)).mono ?_
 rintro e W2 ⟨rfl,V,O,g,vo,hds,hdf,_,hnil,_⟩
 have HO:=hid (HDO.out V O hdf (hnil (Nat.zero_le _)))
 have hol:=HLE.out V O hdf
 have HON:=hid hdf.on
 have HDS:=hid hds
 have hm:∀ F∈O,F.length=many:=fun F hF=>((HO.out F).1 hF).2.1
 have HSO:=hid (sortSt_any O many hm (by omega) (by omega) g (w.heap.size+7) (w.heap.size+7) vo W2 hds.row hds.st (fun i hi=>by obtain ⟨a,c,e⟩:=own_form (hds.st i hi);rw [e];rfl))
 have o0:W2.cell? ⟨w.heap.size+5,0,none⟩=some vo:=hds.ou.cell 0
 obtain ⟨va,vc,rfl⟩:=own_form hds.row
 clear hds hdf hnil a0 HAD HST hm hol HLE HDO hsz
 go_wp2_with fail
 refine HSO.out.mono ?_
 rintro e W3 ⟨rfl,p,hp,hpw,hr3,hg3⟩
 obtain ⟨g3,hst⟩:=sorted_sets HDS.out hr3 hg3
 have hpl:p.length=O.length:=by rw [hp.length_eq,List.length_finRange]
 have HP:=hid (show SetsP S B (trs L) many (p.map fun i=>O[i]) from setsP_of HO.out HON.out (by have:=hp.map (fun i:Fin O.length=>O[i]);rwa [map_all] at this) (by rw [List.pairwise_map];exact hpw))
 have HST:=hid hst
 have HB3:=hid (HDS.out.b.grown hg3 HDS.out.b.size (fun k e=>by have:=row_ge HDS.out.row e;omega))
 have o1:W3.cell? ⟨w.heap.size+5,0,none⟩=some (.slice va O.length vc):=(HDS.out.ou.grown hg3 (fun e=>by have:=row_ge HDS.out.row e;omega)).cell 0
 clear hp hpw hr3 hg3 hst hpl HSO HDS HO HON o0
 go_wp2
 go_ret
 exact ⟨_,_,g3,rfl,HP.out,HST.out,HB3.out⟩
theorem run_neDg (a b c x y z:Int) (w:World):(binOp .neq 74 (.agg #[.int .i64 a,.int .i64 b,.int .i64 c]) (.agg #[.int .i64 x,.int .i64 y,.int .i64 z])).run Tryz.prog w = .ok (.bool (!(a==x&&(b==y&&c==z)))) w:=by
 rw [run_neq_struct]
 rw [run_equalIn_agg w 9999 74 _ _ (by kernel_rfl) (by kernel_rfl)]
 simp only [Program.fieldsOf,Tryz.underlying74]
 simp [go_sem,Tryz.underlying3,part]
 by_cases h1:a=x <;> by_cases h2:b=y <;> by_cases h3:c=z <;> simp [h1,h2,h3]
theorem dg_eq (p q:Ft):(p.1==q.1&&(p.2.1==q.2.1&&p.2.2==q.2.2))=decide (p=q):=by
 obtain ⟨a,b,c⟩:=p
 obtain ⟨x,y,z⟩:=q
 rw [Bool.eq_iff_iff]
 simp [Prod.mk.injEq]
theorem neDg {p q:Ft} {b:Bool} (h:decide (p=q)=b) (w:World):(binOp .neq 74 (.agg #[.int .i64 p.1,.int .i64 p.2.1,.int .i64 p.2.2]) (.agg #[.int .i64 q.1,.int .i64 q.2.1,.int .i64 q.2.2])).run Tryz.prog w = .ok (.bool (!b)) w:=by rw [run_neDg,dg_eq,h]
theorem samesets_any (M N:List (List Ft)) (va vb:Value) (ga gb:Nat→Value) (w:World) (ha:StsRd w va M ga) (hb:StsRd w vb N gb) (_hl:M.length≤1000000) (_hl2:N.length≤1000000) (hm:∀ x∈M,x.length≤1000000) :
  Calls Tryz.prog 14 #[va,vb] w (BoolR (decide (M=N)) w):=by
 obtain ⟨aa,ca,eva⟩:=ha.form
 obtain ⟨ab,cb,evb⟩:=hb.form
 subst eva evb
 have HA:=hid ha
 have HB:=hid hb
 have HM:=hid hm
 clear ha hb hm
 obtain ⟨mm,hmm⟩:∃ n,M.length=n:=⟨_,rfl⟩
 obtain ⟨nn,hnn⟩:∃ n,N.length=n:=⟨_,rfl⟩
 rw [hmm,hnn]
 have HMM:=hid hmm
 have HNN:=hid hnn
 clear hmm hnn
 go_enter Tryz.func14,Tryz.ntmps14
 have HV0:Hid (∀ j (h1:j<M.length) (h2:j<N.length),j<0→M[j]=N[j]):=hid (fun j _ _ h=>absurd h (Nat.not_lt_zero _))
 have HW0:=hid (Below.refl w.heap.size w)
 go_wp2
 go_loopw [5] (fun x wr=>∃ i:Nat,i≤mm∧i≤nn∧x = .int .i64 i∧Hid (∀ j (h1:j<M.length) (h2:j<N.length),j<i→M[j]=N[j])∧Hid (Below w.heap.size w wr)) (fun x _=>mm-(intOf x).toNat)
 case atStart=>exact ⟨0,Nat.zero_le _,Nat.zero_le _,rfl,HV0,HW0⟩
 clear HV0 HW0
 obtain ⟨i,hi,hin,rfl,hV,hW⟩:=hrel
 by_cases hil:i<mm∧i<nn
 case neg =>
  have HN:Hid (decide (M=N)=((mm:Int)==(nn:Int))):=hid (by
   rw [Bool.eq_iff_iff,decide_eq_true_iff,beq_iff_eq]
   have e1:=HMM.out
   have e2:=HNN.out
   constructor
   ·intro q;rw [q] at e1;omega
   ·intro q
    exact List.ext_getElem (by omega) (fun j h1 h2=>hV.out j h1 h2 (by omega)))
  by_cases h1:i<mm
  ·have h1':(i:Int)<(mm:Int):=by omega
   have h2':¬ (i:Int)<(nn:Int):=by omega
   clear hV
   go_wp2
   go_ret
   exact ⟨by rw [HN.out];rfl,hW.out⟩
  ·have h1':¬ (i:Int)<(mm:Int):=by omega
   clear hV
   go_wp2
   go_ret
   exact ⟨by rw [HN.out];rfl,hW.out⟩
 have hiM:i<M.length:=by have:=HMM.out;omega
 have hiN:i<N.length:=by have:=HNN.out;omega
 obtain ⟨b1,o1,c1,ev,hbl,k0⟩:=(HA.out.later hW.out).at' hiM
 rw [HMM.out] at ev
 cases ev
 obtain ⟨b2,o2,c2,ev,hbl2,m0⟩:=(HB.out.later hW.out).at' hiN
 rw [HNN.out] at ev
 cases ev
 have h1':(i:Int)<(mm:Int):=by omega
 have h2':(i:Int)<(nn:Int):=by omega
 have HXA:=hid (fun (W:World) (hb:Below w.heap.size w W)=>(HA.out.later hb).st i hiM)
 have HXB:=hid (fun (W:World) (hb:Below w.heap.size w W)=>(HB.out.later hb).st i hiN)
 have HLA:=hid (HM.out _ (List.getElem_mem hiM))
 obtain ⟨a,eqa⟩:∃ a,M[i]=a:=⟨_,rfl⟩
 obtain ⟨b,eqb⟩:∃ b,N[i]=b:=⟨_,rfl⟩
 have HX:Hid (a=b→∀ j (h1:j<M.length) (h2:j<N.length),j<i+1→M[j]=N[j]):=hid (fun h j h1 h2 hj=>by
  rcases Nat.lt_or_ge j i with q | q
  ·exact hV.out j h1 h2 q
  ·have:j=i:=by omega
   subst this
   rw [eqa,eqb]
   exact h)
 have HY:Hid (a≠b→decide (M=N)=false):=hid (fun h=>decide_eq_false (fun q=>h (by subst q;exact eqa.symm.trans eqb)))
 rw [eqa] at HXA HLA
 rw [eqb] at HXB
 obtain ⟨⟨ax,ac,ea⟩,bx,bc,eb⟩:(∃ x c,ga i = .slice x a.length c)∧∃ x c,gb i = .slice x b.length c:=⟨(HXA.out _ hW.out).ftForm,(HXB.out _ hW.out).ftForm⟩
 rw [ea] at k0 HXA
 rw [eb] at m0 HXB
 have hcell:∀ W,Below w.heap.size w W→W.cell? ⟨b1,o1+i,none⟩=some (.slice ax a.length ac):=fun W hb=>by
  obtain ⟨b',o',c',ev,_,q⟩:=(HA.out.later hb).at' hiM
  rw [HMM.out] at ev
  cases ev
  rw [q,ea]
 have HK0:=hid hcell
 have hcell2:∀ W,Below w.heap.size w W→W.cell? ⟨b2,o2+i,none⟩=some (.slice bx b.length bc):=fun W hb=>by
  obtain ⟨b',o',c',ev,_,q⟩:=(HB.out.later hb).at' hiN
  rw [HNN.out] at ev
  cases ev
  rw [q,eb]
 have HK1:=hid hcell2
 clear ea eb eqa eqb hV hcell hcell2
 have HL0:=hid (show i<mm∧i<nn from hil)
 clear hil
 by_cases hln:a.length=b.length
 case neg =>
  have q1:((a.length:Int) != (b.length:Int))=true:=by rw [bne_iff_ne];omega
  have HN:=hid (HY.out (fun q=>hln (by rw [q])))
  clear hln HX HY
  go_upto_region 4 with fail
  go_quiet (fail)
  have HW9:=hid (below_drewN hW.out nq)
  go_wp2
  go_ret
  exact ⟨by rw [HN.out];rfl,HW9.out⟩
 have q1:((a.length:Int) != (b.length:Int))=false:=by rw [bne_eq_false_iff_eq];omega
 have HLN:=hid hln
 obtain ⟨bl,hbl⟩:∃ n,b.length=n:=⟨_,rfl⟩
 rw [hbl] at HXB m0 q1 HK1
 have HBL:=hid hbl
 clear hln hbl
 go_upto_region 4 with fail
 go_quiet (fail)
 have HW1:=hid (below_drewN hW.out nq)
 clear k0 m0 hW q1
 have HU0:Hid (∀ j (h1:j<a.length) (h2:j<b.length),j<0→a[j]=b[j]):=hid (fun j _ _ h=>absurd h (Nat.not_lt_zero _))
 generalize wr.drewN nq=W1 at *
 go_wp2
 go_loopw [6] (fun x wr=>∃ k:Nat,k≤a.length∧x = .int .i64 k∧Hid (∀ j (h1:j<a.length) (h2:j<b.length),j<k→a[j]=b[j])∧Hid (Below w.heap.size w wr)) (fun x _=>a.length-(intOf x).toNat)
 case atStart=>exact ⟨0,Nat.zero_le _,rfl,HU0,HW1⟩
 clear HU0 HW1
 obtain ⟨k,hk,rfl,hV,hW⟩:=hrel
 by_cases hkl:k<a.length
 case neg =>
  have hk2:¬ (k:Int)<(a.length:Int):=by omega
  have HN:=hid (HX.out (List.ext_getElem HLN.out (fun j h1 h2=>hV.out j h1 h2 (by omega))))
  clear hV HX HY
  obtain ⟨hL1,hL2⟩:=HL0.out
  have k0:=HK0.out _ hW.out
  go_wp2
  go_roundw
  case rel=>exact ⟨i+1,by omega,by omega,by go_num,HN,hW⟩
  case measure=>simp [intOf];omega
 have hk2:(k:Int)<(a.length:Int):=by omega
 have hkb:k<b.length:=by rw [← HLN.out];exact hkl
 have hla:=HLA.out
 have hk3:(k:Int)<(bl:Int):=by have:=HBL.out;omega
 have k0:=HK0.out _ hW.out
 have m0:=HK1.out _ hW.out
 obtain ⟨b3,o3,c3,ev,hbl3,x0,x1,x2⟩:=(HXA.out _ hW.out).ftAt k hkl
 cases ev
 obtain ⟨b4,o4,c4,ev,hbl4,y0,y1,y2⟩:=(HXB.out _ hW.out).ftAt k hkb
 rw [HBL.out] at ev
 cases ev
 have HU:=hid (show a[k]=b[k]→∀ j (h1:j<a.length) (h2:j<b.length),j<k+1→a[j]=b[j] from fun h j h1 h2 hj=>by
  rcases Nat.lt_or_ge j k with q | q
  ·exact hV.out j h1 h2 q
  ·have:j=k:=by omega
   subst this
   exact h)
 have HZ:=hid (show a[k]≠b[k]→a≠b from fun h q=>h (by subst q;rfl))
 obtain ⟨⟨p0,p1,p2⟩,hx⟩:∃ x,a[k]=x:=⟨_,rfl⟩
 obtain ⟨⟨r0,r1,r2⟩,hy⟩:∃ y,b[k]=y:=⟨_,rfl⟩
 rw [hx] at x0 x1 x2 HU HZ
 rw [hy] at y0 y1 y2 HU HZ
 dsimp only at x0 x1 x2 y0 y1 y2
 clear hx hy hV hbl3 hbl4 hkb
 obtain ⟨bb,hbb⟩:∃ bb,decide (((p0,p1,p2):Ft)=(r0,r1,r2))=bb:=⟨_,rfl⟩
 have hne:=fun W=>neDg hbb W
 dsimp only at hne
 cases bb with
 | true =>
  have HN:=hid (HU.out (of_decide_eq_true hbb))
  clear hbb HU HZ
  go_upto_region 9 with fail
  go_quiet (fail)
  have HW9:=hid (below_drewN hW.out nq)
  go_wp2
  go_roundw
  case rel=>exact ⟨k+1,by omega,by go_num,HN,HW9⟩
  case measure=>simp [intOf];omega
 | false =>
  have HN:=hid (HY.out (HZ.out (of_decide_eq_false hbb)))
  clear hbb HU HZ
  go_upto_region 9 with fail
  go_quiet (fail)
  have HW9:=hid (below_drewN hW.out nq)
  go_wp2
  go_ret
  exact ⟨by rw [HN.out];rfl,HW9.out⟩
end Go.Proofs.YteflhbfgpknabaaGreatDoor
