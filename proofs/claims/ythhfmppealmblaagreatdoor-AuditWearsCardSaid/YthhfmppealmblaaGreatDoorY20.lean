/-
  A part of the proof: RN, ON, SH, AE2, AE.
-/
import Derived.Test.YthhfmppealmblaaGreatDoorY19
import Derived.Test.YthhfmppealmblaaGreatDoorY18
import Derived.Test.YthhfmppealmblaaGreatDoorY16
namespace Go.Proofs.YthhfmppealmblaaGreatDoor
open Go.RowKit
def EnR (S:Sp) (l:List Ev) (w:World) (e:Ending) (w':World):Prop:=∃ vk vs vc,e = .returned (.tuple #[.agg #[vk,vs,vc],.int .i64 (audE S l)])∧(audE S l=0→HdRd w' vk vs vc S (onV l))∧(audE S l≠0→vk = .slice none 0 0∧vs = .slice none 0 0∧vc = .slice none 0 0)∧Below w.heap.size w w'
theorem upF_max {S:Sp} {l:List Ev} (h:RecOk S l):upF l 100000000=onV l:=by
 obtain ⟨hle,hx⟩:=upN_spec h.asc 100000000
 have e:upN l 100000000=l.length:=by
  rcases Nat.lt_or_ge (upN l 100000000) l.length with q | q
  ·have h1:=(hx _ q).2 (by have:=(h.at' _ q).1;omega)
   omega
  ·omega
 unfold upF
 rw [e,List.take_length]
theorem results_cell_row_tmp {P:Program} {fn:Func} {p u:Tmp} {ty:TypeId} (h:fn.results=#[.cell p ty,.tmp u]) (tmps:Array Value) (w:World) (g:Nat) (t:TypeId) (cs:Array Value) (fr:Nat × Nat) (d:TypeDesc)
  (hp:tmps.getD p undef = .pointer (some ⟨g,0,none⟩)) (hg:w.heap[g]?=some (.cells cs t fr))
  (hu:P.underlying ty=some d) (hd:(match d with | .struct _ | .array _ _=>true | _=>false)=true) (hi:(P.info? ty).map (·.size)=some cs.size) :
  (results fn tmps).run P w = .ok (.tuple #[.agg cs,tmps.getD u undef]) w:=by
 have hp':tmps[p]?.getD undef = .pointer (some ⟨g,0,none⟩):=by simpa using hp
 rw [results_cell_tmp h]
 simp [hp',asAddr,run_loadVar_row w g t ty cs fr d hg hu hd hi,Result.andThen]
set_option maxRecDepth 100000 in
set_option maxHeartbeats 12800000 in
theorem ends34_any (v1 v2 v3 v4:Value) (S:Sp) (ok:SpOk S) (fp:Nat→Value) (l:List Ev) (vl:Value) (w:World) (hsp:SpRd w v1 v2 v3 v4 fp S) (hlv:ARd w vl 5 (l.map evC)) (hl:l.length≤50000) :
  Calls Tryz.prog 31 #[.agg #[v1,v2,v3,v4],vl] w (EnR S l w):=by
 have b0:=((Blk.new w 27 #[v1,v2,v3,v4]).alloc (.cells #[.slice none 0 0,.slice none 0 0,.slice none 0 0] 70))
 have b1:=(Blk.new (w.alloc (.cells #[v1,v2,v3,v4] 27)) 70 #[.slice none 0 0,.slice none 0 0,.slice none 0 0])
 rw [World.size_alloc] at b1
 have B0:=Lib.hid b0
 have C0:=Lib.hid b1
 have HB0:=Lib.hid (below_two w (.cells #[v1,v2,v3,v4] 27) (.cells #[.slice none 0 0,.slice none 0 0,.slice none 0 0] 70))
 clear b0 b1
 have HCK:=Lib.hid (fun (W:World) (hb:Below w.heap.size w W)=>rcheck34_any v1 v2 v3 v4 S ok fp l vl W (hsp.later hb) (by omega) (hlv.later hb))
 have HHA:=Lib.hid (fun (hro:RecOk S l) (W:World) (hb:Below w.heap.size w W)=>hand34_any v1 v2 v3 v4 S hro.sp fp l vl 100000000 W (hsp.later hb) (by have:=hro.len;omega) (hlv.later hb) (fun x hx=>by
  obtain ⟨i,hi,rfl⟩:=List.getElem_of_mem hx
  exact ev_placed hro.sp (hro.at' i hi).2))
 clear hsp hlv ok
 go_enter Tryz.func31,Tryz.ntmps31
 go_wp2_with fail
 refine (HCK.out _ HB0.out).mono ?_
 rintro e W ⟨rfl,hb⟩
 have HB1:=Lib.hid (below_step HB0.out hb)
 have B1:=Lib.hid (B0.out.below hb)
 have C1:=Lib.hid (C0.out.below hb)
 have HS1:=Lib.hid HB1.out.size
 clear HCK hb B0 C0 HB0
 have r0:W.cell? ⟨w.heap.size+1,0,none⟩=some (.slice none 0 0):=C1.out.cell 0
 have r1:W.cell? ⟨w.heap.size+1,1,none⟩=some (.slice none 0 0):=C1.out.cell 1
 have r2:W.cell? ⟨w.heap.size+1,2,none⟩=some (.slice none 0 0):=C1.out.cell 2
 have f0:=C1.out.frozen 0
 have f1:=C1.out.frozen 1
 have f2:=C1.out.frozen 2
 obtain ⟨e0,he0⟩:∃ e0,audE S l=e0:=⟨_,rfl⟩
 have HE:=Lib.hid he0
 by_cases hE:e0=0
 case neg =>
  have HN:=Lib.hid hE
  rw [he0] at ⊢
  have q1:(e0==0)=false:=by simpa using hE
  clear he0 hE
  have HBL:=Lib.hid (hd_blk C1.out rfl (.slice none 0 0) (.slice none 0 0) (.slice none 0 0))
  have HG:=Lib.hid (((set_grown W (w.heap.size+1) 0 (.slice none 0 0)).trans (set_grown _ (w.heap.size+1) 1 (.slice none 0 0))).trans (set_grown _ (w.heap.size+1) 2 (.slice none 0 0)))
  have HB3:=Lib.hid (HB1.out.grown HG.out HB1.out.size (fun r e=>by cases e;omega))
  go_wp2
  refine bodyPost_ret (results_cell_row_tmp rfl _ _ (w.heap.size+1) 70 _ (0,0) _ rfl HBL.out Tryz.underlying70 rfl (by kernel_rfl)) rfl ?_
  exact ⟨.slice none 0 0,.slice none 0 0,.slice none 0 0,by show Ending.returned (.tuple #[.agg #[.slice none 0 0,.slice none 0 0,.slice none 0 0],.int .i64 e0])=_;rw [HE.out],fun h=>absurd (HE.out.symm.trans h) HN.out,fun _=>⟨rfl,rfl,rfl⟩,HB3.out⟩
 subst hE
 rw [he0]
 have HO:=Lib.hid (audE_ok he0)
 have HUP:=Lib.hid (upF_max HO.out)
 have HH:=Lib.hid (HHA.out HO.out W HB1.out)
 rw [HUP.out] at HH
 obtain ⟨s0,s1,s2,s3⟩:=B1.out.four
 clear he0 HHA
 clear r0 r1 r2 f0 f1 f2
 go_wp2_with fail
 refine (HH.out).mono ?_
 rintro e w2 ⟨vk,vs,vc,rfl,hhd,hb2⟩
 obtain ⟨⟨ak,ck,rfl⟩,⟨as',cs',rfl⟩,⟨ac,cc,rfl⟩⟩:=(hhd _ (fun _ _ _=>rfl)).forms
 have HHD:=Lib.hid hhd
 have HLT:=Lib.hid (show w.heap.size+1<W.heap.size from C1.out.lt)
 have HB2:=Lib.hid (below_step HB1.out hb2)
 have C2:=Lib.hid (C1.out.below hb2)
 have HSZ:=Lib.hid hb2.size
 clear hhd hb2 s0 s1 s2 s3 HH
 have r0:w2.cell? ⟨w.heap.size+1,0,none⟩=some (.slice none 0 0):=C2.out.cell 0
 have r1:w2.cell? ⟨w.heap.size+1,1,none⟩=some (.slice none 0 0):=C2.out.cell 1
 have r2:w2.cell? ⟨w.heap.size+1,2,none⟩=some (.slice none 0 0):=C2.out.cell 2
 have f0:=C2.out.frozen 0
 have f1:=C2.out.frozen 1
 have f2:=C2.out.frozen 2
 have HBL:=Lib.hid (hd_blk C2.out rfl (.slice ak S.ds.length ck) (.slice as' (onL (onV l) 2 S.ss.length).length cs') (.slice ac (onL (onV l) 3 S.cs.length).length cc))
 have HG:=Lib.hid (((set_grown w2 (w.heap.size+1) 0 (.slice ak S.ds.length ck)).trans (set_grown _ (w.heap.size+1) 1 (.slice as' (onL (onV l) 2 S.ss.length).length cs'))).trans (set_grown _ (w.heap.size+1) 2 (.slice ac (onL (onV l) 3 S.cs.length).length cc)))
 have HB3:=Lib.hid (HB2.out.grown HG.out HB2.out.size (fun r e=>by cases e;omega))
 go_wp2
 refine bodyPost_ret (results_cell_row_tmp rfl _ _ (w.heap.size+1) 70 _ (0,0) _ rfl HBL.out Tryz.underlying70 rfl (by kernel_rfl)) rfl ?_
 refine ⟨(.slice ak S.ds.length ck),(.slice as' (onL (onV l) 2 S.ss.length).length cs'),(.slice ac (onL (onV l) 3 S.cs.length).length cc),by show Ending.returned (.tuple #[.agg #[(.slice ak S.ds.length ck),(.slice as' (onL (onV l) 2 S.ss.length).length cs'),(.slice ac (onL (onV l) 3 S.cs.length).length cc)],.int .i64 0])=_;rw [HE.out],fun _=>HHD.out _ fun i h1 h2=>?_,fun h=>absurd HE.out h,HB3.out⟩
 exact HG.out.block i h2 (fun e=>by have:=Option.some.inj e;have:=HLT.out;omega)
end Go.Proofs.YthhfmppealmblaaGreatDoor
namespace Go.Proofs.YthhfmppealmblaaGreatDoor
open Go.RowKit
def onI (b:Nat→Bool) (n:Nat):List Int:=((List.range n).filter b).map fun (i:Nat)=>(i:Int)
theorem onI_succ (b:Nat→Bool) (n:Nat):onI b (n+1)=onI b n++if b n=true then [(n:Int)] else []:=by
 unfold onI
 rw [List.range_succ,List.filter_append,List.map_append]
 congr 1
 by_cases h:b n=true
 ·rw [if_pos h,List.filter_cons_of_pos h];rfl
 ·rw [if_neg h,List.filter_cons_of_neg h];rfl
theorem len_onI (b:Nat→Bool) (n:Nat):(onI b n).length≤n:=by
 unfold onI
 rw [List.length_map]
 have:=List.length_filter_le b (List.range n)
 rwa [List.length_range] at this
def OnR (b:Nat→Bool) (n:Nat) (w:World) (e:Ending) (w':World):Prop:=∃ v,e = .returned v∧w'.ownsRow w.heap.size 3 1 v (onI b n).length (iCs (onI b n))∧Below w.heap.size w w'
set_option maxRecDepth 100000 in
set_option maxHeartbeats 12800000 in
theorem on_any (b:Nat→Bool) (n:Nat) (hn:n≤100000) (Bk o c:Nat) (w:World) (hlt:Bk<w.heap.size) (hb:∀ d,d<n→w.cell? ⟨Bk,o+d,none⟩=some (.bool (b d))) :
  Calls Tryz.prog 63 #[.slice (some ⟨Bk,o,none⟩) n c] w (OnR b n w):=by
 obtain ⟨i0,hi0,hz0,hz1,hz2⟩:=info_parts int64_info
 have HB:=Lib.hid hb
 have HL:=Lib.hid hlt
 have HR0:=Lib.hid (show w.ownsRow w.heap.size 3 1 (.slice none 0 0) (onI b 0).length (iCs (onI b 0)) from World.ownsRow_nil _ _ _ _)
 have HW0:=Lib.hid (Below.refl w.heap.size w)
 clear hb hlt
 go_enter Tryz.func63,Tryz.ntmps63
 go_wp2
 go_loopw [3,8] (fun v x wr=>∃ i:Nat,i≤n∧x = .int .i64 i∧RowKit.Hid (wr.ownsRow w.heap.size 3 1 v (onI b i).length (iCs (onI b i)))∧RowKit.Hid (Below w.heap.size w wr)) (fun _ x _=>n-(intOf x).toNat)
 case atStart=>exact ⟨0,Nat.zero_le _,rfl,HR0,HW0⟩
 clear HR0 HW0
 obtain ⟨i,hi,rfl,hrow,hW⟩:=hrel
 by_cases hin:i<n
 ·have hi2:(i:Int)<(n:Int):=by omega
  have q0:=(hW.out.cell HL.out).trans (HB.out i hin)
  have HS:=Lib.hid (onI_succ b i)
  have hll:=len_onI b i
  have hsz:=hW.out.size
  obtain ⟨L,hL⟩:∃ L,onI b i=L:=⟨_,rfl⟩
  rw [hL] at hrow HS hll
  cases hbi:b i with
  | false =>
   rw [hbi] at q0 HS
   have HS2:=Lib.hid (show onI b (i+1)=L by rw [HS.out];simp)
   clear hL HS hbi
   go_wp2
   go_roundw
   case rel=>exact ⟨i+1,by omega,by go_num,by rw [HS2.out];exact hrow,hW⟩
   case measure=>simp [intOf];omega
  | true =>
   rw [hbi] at q0 HS
   have HS2:=Lib.hid (show onI b (i+1)=L++[(i:Int)] by rw [HS.out];simp)
   clear hL HS hbi
   go_wp2_with (at_builtin;refine wpList_append_lies _ rfl _ _ 68 rfl w.heap.size 3 i0 _ 1 8 Tryz.underlying68 hi0 hz0 hz1 hz2 rfl (by omega) _ _ _ rfl (hrow.out.alloc _) ⟨wr.heap.size,0,none⟩ 1 1 [.int .i64 i] rfl rfl (World.news_of_block (cs:=#[.int .i64 i]) (t:=3) (fr:=(0,0)) (heap_alloc_new wr _)) (by simp [Value.oneCell']) (by omega) (by unfold maxLen;omega) (by omega) (by simp;omega) (wr.heap.size+1) (by simp) ?_;intro gg cap w3 hown3 hgrow hat3 hlt3)
   have HR3:=Lib.hid (show w3.ownsRow w.heap.size 3 1 (.slice (some ⟨gg,0,none⟩) (L.length+1) cap) (L++[(i:Int)]).length (iCs (L++[(i:Int)])) by rw [iCs_snoc,List.length_append,List.length_singleton];exact hown3)
   have HB3:=Lib.hid (push_low hW.out hrow.out hgrow)
   clear hown3 hgrow hat3 hlt3 q0
   go_wp2
   go_roundw
   case rel=>exact ⟨i+1,by omega,by go_num,by rw [HS2.out];exact HR3,HB3⟩
   case measure=>simp [intOf];omega
 ·have hi2:¬ (i:Int)<(n:Int):=by omega
  have hie:i=n:=by omega
  rw [hie] at hrow
  clear hie
  go_wp2
  go_ret
  exact ⟨_,rfl,hrow.out,hW.out⟩
end Go.Proofs.YthhfmppealmblaaGreatDoor
namespace Go.Proofs.YthhfmppealmblaaGreatDoor
open Go.RowKit
set_option maxRecDepth 100000 in
set_option maxHeartbeats 3200000 in
theorem same_ints (l:List Int) (v u:Value) (w:World) (hv:ARd w v 1 (l.map iC)) (hu:ARd w u 1 (l.map iC)) (hl:l.length≤100000) :
  Calls Tryz.prog 35 #[v,u] w fun e w'=>e = .returned (.bool true)∧Below w.heap.size w w':=by
 obtain ⟨a,c,ev⟩:=hv.form
 obtain ⟨a2,c2,eu⟩:=hu.form
 rw [List.length_map] at ev eu
 subst ev
 subst eu
 have HV:=Lib.hid hv
 have HU:=Lib.hid hu
 go_enter Tryz.func35,Tryz.ntmps35
 go_wp2
 go_loopw [5] (fun x wr=>∃ k:Nat,k≤l.length∧x = .int .i64 k∧RowKit.Hid (Below w.heap.size w wr)) (fun x _=>l.length-(intOf x).toNat)
 case atStart=>exact ⟨0,by omega,rfl,Lib.hid (Below.refl _ _)⟩
 obtain ⟨k,hk,rfl,hW⟩:=hrel
 by_cases hlt:k<l.length
 ·obtain ⟨b,o,c',ev',hbl,hc⟩:=(HV.out.later hW.out).at k (by simpa using hlt)
  obtain ⟨b2,o2,c2',eu',hbl2,hc2⟩:=(HU.out.later hW.out).at k (by simpa using hlt)
  rw [List.getElem_map] at hc hc2
  rw [List.length_map] at ev' eu'
  have q0:wr.cell? ⟨b,o+k,none⟩=some (.int .i64 l[k]):=by have:=hc 0 _ rfl;rwa [Nat.mul_one] at this
  have r0:wr.cell? ⟨b2,o2+k,none⟩=some (.int .i64 l[k]):=by have:=hc2 0 _ rfl;rwa [Nat.mul_one] at this
  cases ev'
  cases eu'
  have hk2:(k:Int)<(l.length:Int):=by omega
  go_wp2_with fail
  go_quiet (fail)
  go_wp2
  go_roundw
  case rel=>exact ⟨k+1,by omega,by go_num,Lib.hid (below_drewN hW.out nq)⟩
  case measure=>simp [intOf];omega
 ·have hk2:¬ ((k:Int)<(l.length:Int)):=by omega
  go_wp2
  go_ret
  exact ⟨rfl,hW.out⟩
set_option maxRecDepth 100000 in
set_option maxHeartbeats 12800000 in
theorem same_hand {S:Sp} (hn:S.ds.length≤6) (f:Th→Int) (hs:S.ss.length≤1000) (hc:S.cs.length≤1000) (ak as' ac bk bs bc:Value) (w:World) (ha:HdRd w ak as' ac S f) (hb:HdRd w bk bs bc S f) :
  Calls Tryz.prog 32 #[.agg #[ak,as',ac],.agg #[bk,bs,bc]] w (BoR true w):=by
 obtain ⟨⟨a1,c1,rfl⟩,⟨a2,c2,rfl⟩,⟨a3,c3,rfl⟩⟩:=ha.forms
 obtain ⟨⟨b1,d1,rfl⟩,⟨b2,d2,rfl⟩,⟨b3,d3,rfl⟩⟩:=hb.forms
 have HA:=Lib.hid ha
 have HB:=Lib.hid hb
 have HW:=Lib.hid (below_two w (.cells #[.slice a1 S.ds.length c1,.slice a2 (onL f 2 S.ss.length).length c2,.slice a3 (onL f 3 S.cs.length).length c3] 70) (.cells #[.slice b1 S.ds.length d1,.slice b2 (onL f 2 S.ss.length).length d2,.slice b3 (onL f 3 S.cs.length).length d3] 70))
 have h1:=(Blk.new w 70 #[.slice a1 S.ds.length c1,.slice a2 (onL f 2 S.ss.length).length c2,.slice a3 (onL f 3 S.cs.length).length c3]).alloc (.cells #[.slice b1 S.ds.length d1,.slice b2 (onL f 2 S.ss.length).length d2,.slice b3 (onL f 3 S.cs.length).length d3] 70)
 have h2:=Blk.new (w.alloc (.cells #[.slice a1 S.ds.length c1,.slice a2 (onL f 2 S.ss.length).length c2,.slice a3 (onL f 3 S.cs.length).length c3] 70)) 70 #[.slice b1 S.ds.length d1,.slice b2 (onL f 2 S.ss.length).length d2,.slice b3 (onL f 3 S.cs.length).length d3]
 rw [World.size_alloc] at h2
 have H1:=Lib.hid h1
 have H2:=Lib.hid h2
 have HS:=Lib.hid (fun (W:World) (hb':Below w.heap.size w W)=>same_ints _ _ _ W (ha.stops.later hb') (hb.stops.later hb') (by have:=len_onL f 2 S.ss.length;omega))
 have HC:=Lib.hid (fun (W:World) (hb':Below w.heap.size w W)=>same_ints _ _ _ W (ha.cous.later hb') (hb.cous.later hb') (by have:=len_onL f 3 S.cs.length;omega))
 clear h1 h2 ha hb
 go_enter Tryz.func32,Tryz.ntmps32
 go_upto_region 1 with fail
 generalize (w.alloc (.cells #[.slice a1 S.ds.length c1,.slice a2 (onL f 2 S.ss.length).length c2,.slice a3 (onL f 3 S.cs.length).length c3] 70)).alloc (.cells #[.slice b1 S.ds.length d1,.slice b2 (onL f 2 S.ss.length).length d2,.slice b3 (onL f 3 S.cs.length).length d3] 70)=W at *
 have x0:W.cell? ⟨w.heap.size,0,none⟩=some (.slice a1 S.ds.length c1):=H1.out.cell 0
 have x1:W.cell? ⟨w.heap.size,1,none⟩=some (.slice a2 (onL f 2 S.ss.length).length c2):=H1.out.cell 1
 have y0:W.cell? ⟨w.heap.size+1,0,none⟩=some (.slice b1 S.ds.length d1):=H2.out.cell 0
 have y1:W.cell? ⟨w.heap.size+1,1,none⟩=some (.slice b2 (onL f 2 S.ss.length).length d2):=H2.out.cell 1
 have hq:((S.ds.length:Int)==(S.ds.length:Int))=true:=beq_self_eq_true _
 go_wp2_with fail
 refine (HS.out W HW.out).mono ?_
 rintro e W2 ⟨rfl,hb2⟩
 have HW2:=Lib.hid (below_step HW.out hb2)
 have K1:=Lib.hid (H1.out.below hb2)
 have K2:=Lib.hid (H2.out.below hb2)
 clear hb2 x0 x1 y0 y1 H1 H2 HS HW
 have x2:W2.cell? ⟨w.heap.size,2,none⟩=some (.slice a3 (onL f 3 S.cs.length).length c3):=K1.out.cell 2
 have y2:W2.cell? ⟨w.heap.size+1,2,none⟩=some (.slice b3 (onL f 3 S.cs.length).length d3):=K2.out.cell 2
 go_wp2_with fail
 refine (HC.out W2 HW2.out).mono ?_
 rintro e W3 ⟨rfl,hb3⟩
 have HW3:=Lib.hid (below_step HW2.out hb3)
 have L1:=Lib.hid (K1.out.below hb3)
 have L2:=Lib.hid (K2.out.below hb3)
 have HR0:=Lib.hid (Below.refl W3.heap.size W3)
 clear hb3 x2 y2 K1 K2 HC HW2 hq
 go_wp2
 go_loopw [5] (fun x wr=>∃ k:Nat,k≤S.ds.length∧x = .int .i64 k∧RowKit.Hid (Below W3.heap.size W3 wr)) (fun x _=>S.ds.length-(intOf x).toNat)
 case atStart=>exact ⟨0,Nat.zero_le _,rfl,HR0⟩
 clear HR0
 obtain ⟨k,hk,rfl,hJ⟩:=hrel
 have HBX:=Lib.hid (below_step HW3.out hJ.out)
 have x0:wr.cell? ⟨w.heap.size,0,none⟩=some (.slice a1 S.ds.length c1):=(L1.out.below hJ.out).cell 0
 have y0:wr.cell? ⟨w.heap.size+1,0,none⟩=some (.slice b1 S.ds.length d1):=(L2.out.below hJ.out).cell 0
 by_cases hkl:k<S.ds.length
 ·have hk2:(k:Int)<(S.ds.length:Int):=by omega
  obtain ⟨ba,oa,c',g,ev,g0,hg⟩:=(HA.out.later HBX.out).keyAt (d:=k) hkl
  cases ev
  obtain ⟨bb,ob,c',g',ev,g0',hg'⟩:=(HB.out.later HBX.out).keyAt (d:=k) hkl
  cases ev
  obtain ⟨av,cv,rfl⟩:=hg.intForm
  obtain ⟨av',cv',rfl⟩:=hg'.intForm
  have HS:=Lib.hid (fun (W:World) (hb':Below wr.heap.size wr W)=>same_ints _ _ _ W (hg.later hb') (hg'.later hb') (by have:=len_playedL f k;omega))
  have hdr:=hold4 (W0:=wr) ⟨Below.refl _ wr,x0,y0,g0,g0'⟩ ((Below.refl _ wr).drew)
  clear hg hg'
  go_upto_region 6 with fail
  go_region_held3 (fun w'=>Below wr.heap.size wr w'∧w'.cell? ⟨w.heap.size,0,none⟩=some (.slice (some ⟨ba,oa,none⟩) S.ds.length c1)∧w'.cell? ⟨w.heap.size+1,0,none⟩=some (.slice (some ⟨bb,ob,none⟩) S.ds.length d1)∧w'.cell? ⟨ba,oa+k,none⟩=some (.slice av (playedL f k).length cv)∧w'.cell? ⟨bb,ob+k,none⟩=some (.slice av' (playedL f k).length cv')) (first | exact hdr | assumption) (first | (go_at_call 35;(with_reducible refine (HS.out _ hdr.1).mono ?_);rintro e w2 ⟨rfl,hb2⟩;have hn:=hold4 hdr hb2;clear hb2))
  have HJ2:=Lib.hid (below_step hJ.out hn.1)
  clear hdr hn x0 y0 g0 g0' HS
  go_wp2
  go_roundw
  case rel=>exact ⟨k+1,by omega,by go_num,HJ2⟩
  case measure=>simp [intOf];omega
 ·have hk2:¬ (k:Int)<(S.ds.length:Int):=by omega
  go_wp2
  go_ret
  exact ⟨rfl,HBX.out⟩
end Go.Proofs.YthhfmppealmblaaGreatDoor
namespace Go.Proofs.YthhfmppealmblaaGreatDoor
open Go.RowKit
structure EkI (wr:World) (X:Nat) (v1 v2:Value) (L1 L2:List Int) (G:Nat→List Int) (g:Nat→Value) (i:Nat) (vk:Value) (A:World):Prop where
 bx:Blk A X 70 #[vk,v1,v2]
 r1:A.ownsRow wr.heap.size 3 1 v1 L1.length (iCs L1)
 r2:A.ownsRow wr.heap.size 3 1 v2 L2.length (iCs L2)
 ks:A.ownsRow wr.heap.size 68 1 vk i ((List.range i).map g)
 rs:∀ d,d<i→A.ownsRow wr.heap.size 3 1 (g d) (G d).length (iCs (G d))
 be:Below wr.heap.size wr A
 ge:wr.heap.size≤X
theorem EkI.later {wr:World} {X:Nat} {v1 v2:Value} {L1 L2:List Int} {G:Nat→List Int} {g:Nat→Value} {i:Nat} {vk:Value} {A A':World} (h:EkI wr X v1 v2 L1 L2 G g i vk A) (hb:Below A.heap.size A A'):EkI wr X v1 v2 L1 L2 G g i vk A' :=
 ⟨h.bx.below hb,row_later h.r1 hb,row_later h.r2 hb,row_later h.ks hb,fun d hd=>row_later (h.rs d hd) hb,below_step h.be hb,h.ge⟩
theorem EkI.rdG {wr:World} {X Y:Nat} {v1 v2:Value} {g:Nat→Value} {vk:Value} {A A':World} {S:Sp} {f:Th→Int} (h:EkI wr X v1 v2 (onL f 2 S.ss.length) (onL f 3 S.cs.length) (fun d=>playedL f d) g S.ds.length vk A) (hg:A.grownBy A' (some Y)) (hY:Y<wr.heap.size):HdRd A' vk v1 v2 S f:=by
 have hk:∀ {t:TypeId} {n:Nat} {u:Value} {xs:List Value},A.ownsRow wr.heap.size t 1 u n xs→A'.ownsRow wr.heap.size t 1 u n xs:=fun hu=>hu.kept hg (.inr fun e=>by have:=row_ge hu e;omega)
 have e:∀ l:List Nat,(l.map fun d=>[g d]).flatten=l.map g:=fun l=>by
  induction l with
  | nil=>rfl
  | cons a l ih=>simp [ih]
 have hks:=hk h.ks
 exact ⟨⟨g,ARd.of_row (rows:=(List.range S.ds.length).map fun d=>[g d]) (by intro r hr;obtain ⟨d,_,rfl⟩:=List.mem_map.1 hr;rfl) (by
  rw [e,List.length_map,List.length_range]
  exact hks),fun d hd=>ARd.of_ints (hk (h.rs d hd))⟩,ARd.of_ints (hk h.r1),ARd.of_ints (hk h.r2)⟩
theorem EkI.rd {wr:World} {X:Nat} {v1 v2:Value} {g:Nat→Value} {vk:Value} {A:World} {S:Sp} {f:Th→Int} (h:EkI wr X v1 v2 (onL f 2 S.ss.length) (onL f 3 S.cs.length) (fun d=>playedL f d) g S.ds.length vk A):HdRd A vk v1 v2 S f :=
 ⟨⟨g,ARd.of_row (rows:=(List.range S.ds.length).map fun d=>[g d]) (by intro r hr;obtain ⟨d,_,rfl⟩:=List.mem_map.1 hr;rfl) (by
  have e:∀ l:List Nat,(l.map fun d=>[g d]).flatten=l.map g:=fun l=>by
   induction l with
   | nil=>rfl
   | cons a l ih=>simp [ih]
  rw [e,List.length_map,List.length_range]
  exact h.ks),fun d hd=>ARd.of_ints (h.rs d hd)⟩,ARd.of_ints h.r1,ARd.of_ints h.r2⟩
end Go.Proofs.YthhfmppealmblaaGreatDoor
namespace Go.Proofs.YthhfmppealmblaaGreatDoor
open Go.RowKit
theorem onI_onL {f:Th→Int} {k:Int} {n:Nat}:∀ {m:Nat},n≤m→(∀ i:Nat,n≤i→f (k,0,(i:Int))≠1)→onI (fun i=>decide (f (k,0,(i:Int))=1)) m=onL f k n:=by
  intro m hm h
  induction m with
  | zero =>
    have:n=0:=by omega
    subst this
    rfl
  | succ m ih =>
    rw [onI_succ]
    by_cases e:n=m+1
    · subst e
      rw [onL_succ]
      have h2:∀ q:Nat,onI (fun i=>decide (f (k,0,(i:Int))=1)) q=onL f k q:=fun q=>by
        induction q with
        | zero=>rfl
        | succ q ih2=>rw [onI_succ,onL_succ,ih2];simp
      rw [h2]
      simp
    · rw [ih (by omega),if_neg (by simp;exact h m (by omega)),List.append_nil]
theorem onI_played (f:Th→Int) (d:Int):onI (fun k=>decide (f (1,d,(k:Int))=1)) 128=playedL f d:=by
  unfold onI playedL
  rw [List.filter_map]
  rfl
theorem below_set3 {w w':World} {b x:Nat} (h:Below b w w') (hx:b≤x) (u v t:Value):Below b w (((w'.setCell ⟨x,0,none⟩ u).setCell ⟨x,1,none⟩ v).setCell ⟨x,2,none⟩ t) :=
  ((h.setCell (p:=⟨x,0,none⟩) hx u).setCell (p:=⟨x,1,none⟩) hx v).setCell (p:=⟨x,2,none⟩) hx t
def IlR (L:List Int) (w:World) (e:Ending) (w':World):Prop:=∃ v,e = .returned v∧w'.ownsRow w.heap.size 3 1 v L.length (iCs L)∧Below w.heap.size w w'
structure EhI (wr:World) (X:Nat) (v1 v2:Value) (L1 L2:List Int) (W:World):Prop where
  bx:Blk W X 70 #[.slice none 0 0,v1,v2]
  r1:W.ownsRow wr.heap.size 3 1 v1 L1.length (iCs L1)
  r2:W.ownsRow wr.heap.size 3 1 v2 L2.length (iCs L2)
  be:Below wr.heap.size wr W
  ge:wr.heap.size≤X
theorem EhI.start {wr:World} {X:Nat} {v1 v2:Value} {L1 L2:List Int} {W:World} (h:EhI wr X v1 v2 L1 L2 W) (G:Nat→List Int):EkI wr X v1 v2 L1 L2 G (fun _ => .slice none 0 0) 0 (.slice none 0 0) W :=
  ⟨h.bx,h.r1,h.r2,World.ownsRow_nil _ _ _ _,fun _ hd=>absurd hd (Nat.not_lt_zero _),h.be,h.ge⟩
theorem EhI.last {wr w2 w3 W1:World} {v1 v2:Value} {L1 L2:List Int} (h1:w2.ownsRow W1.heap.size 3 1 v1 L1.length (iCs L1)) (hs:wr.heap.size≤W1.heap.size) (h2:w3.ownsRow w2.heap.size 3 1 v2 L2.length (iCs L2)) (hn:Below wr.heap.size wr w2) (hb:Below w2.heap.size w2 w3) :
    EhI wr w3.heap.size v1 v2 L1 L2 (w3.alloc (.cells #[.slice none 0 0,v1,v2] 70)):=by
  have hn3:=below_step hn hb
  have ha:Below w3.heap.size w3 (w3.alloc (.cells #[.slice none 0 0,v1,v2] 70)):=(Below.refl _ w3).alloc (Nat.le_refl _) _
  exact ⟨Blk.new _ _ _,row_later (row_later (row_base h1 hs) hb) ha,row_later (row_base h2 hn.size) ha,below_step hn3 ha,hn3.size⟩
theorem EhI.set {wr w3:World} {X:Nat} {v1 v2:Value} {L1 L2:List Int} (hz:Blk w3 X 70 #[.slice none 0 0,.slice none 0 0,.slice none 0 0]) (h1:w3.ownsRow wr.heap.size 3 1 v1 L1.length (iCs L1)) (h2:w3.ownsRow wr.heap.size 3 1 v2 L2.length (iCs L2)) (hb:Below wr.heap.size wr w3) (hg:wr.heap.size≤X) :
    EhI wr X v1 v2 L1 L2 (((w3.setCell ⟨X,0,none⟩ (.slice none 0 0)).setCell ⟨X,1,none⟩ v1).setCell ⟨X,2,none⟩ v2):=by
  have hgr:w3.grownBy (((w3.setCell ⟨X,0,none⟩ (.slice none 0 0)).setCell ⟨X,1,none⟩ v1).setCell ⟨X,2,none⟩ v2) (some X):=((set_grown w3 X 0 _).trans (set_grown _ X 1 _)).trans (set_grown _ X 2 _)
  have hne:∀ {v:Value} {L:List Int},w3.ownsRow wr.heap.size 3 1 v L.length (iCs L)→v.ownBlock=none∨v.ownBlock≠some X:=fun h => .inr (row_not h hz (by decide))
  exact ⟨hd_blk hz rfl _ _ _,h1.kept hgr (hne h1),h2.kept hgr (hne h2),below_set3 hb hg _ _ _,hg⟩
theorem own_ltA {W:World} {base:Nat} {t:TypeId} {k n:Nat} {v:Value} {xs:List Value} (h:W.ownsRow base t k v n xs) {g:Nat} (e:v.ownBlock=some g):g<W.heap.size:=by
  rcases h.2 with ⟨rfl,_⟩ | ⟨g',cap,cur,rfl,_,hg,_⟩
  · simp [Value.ownBlock] at e
  · have:g'=g:=by simpa [Value.ownBlock] using e
    subst this
    exact (Array.getElem?_eq_some_iff.1 hg).1
structure EkN (wr:World) (X:Nat) (v1 v2:Value) (L1 L2:List Int) (G:Nat→List Int) (g:Nat→Value) (i:Nat) (vk vk' v:Value) (A:World):Prop where
  bx:Blk A X 70 #[vk,v1,v2]
  r1:A.ownsRow wr.heap.size 3 1 v1 L1.length (iCs L1)
  r2:A.ownsRow wr.heap.size 3 1 v2 L2.length (iCs L2)
  ks:A.ownsRow wr.heap.size 68 1 vk' (i+1) ((List.range i).map g++[v])
  rs:∀ d,d<i→A.ownsRow wr.heap.size 3 1 (g d) (G d).length (iCs (G d))
  rv:A.ownsRow wr.heap.size 3 1 v (G i).length (iCs (G i))
  be:Below wr.heap.size wr A
  ge:wr.heap.size≤X
theorem EkN.later {wr:World} {X:Nat} {v1 v2:Value} {L1 L2:List Int} {G:Nat→List Int} {g:Nat→Value} {i:Nat} {vk vk' v:Value} {A A':World} (h:EkN wr X v1 v2 L1 L2 G g i vk vk' v A) (hb:Below A.heap.size A A'):EkN wr X v1 v2 L1 L2 G g i vk vk' v A' :=
  ⟨h.bx.below hb,row_later h.r1 hb,row_later h.r2 hb,row_later h.ks hb,fun d hd=>row_later (h.rs d hd) hb,row_later h.rv hb,below_step h.be hb,h.ge⟩
theorem EkI.pushN {wr:World} {X:Nat} {v1 v2:Value} {L1 L2:List Int} {G:Nat→List Int} {g:Nat→Value} {i:Nat} {vk:Value} {A:World} (h:EkI wr X v1 v2 L1 L2 G g i vk A) {v:Value} (hv:A.ownsRow wr.heap.size 3 1 v (G i).length (iCs (G i))) {A2:World} {vk':Value} (hg:A.grownBy A2 vk.ownBlock) (ho:A2.ownsRow wr.heap.size 68 1 vk' (i+1) ((List.range i).map g++[v])):EkN wr X v1 v2 L1 L2 G g i vk vk' v A2:=by
  have hk:∀ {u:Value} {L:List Int},A.ownsRow wr.heap.size 3 1 u L.length (iCs L)→A2.ownsRow wr.heap.size 3 1 u L.length (iCs L):=fun hu=>hu.kept hg (row_apart hu h.ks (by decide))
  exact ⟨blk_kept_row h.bx hg h.ks (by decide),hk h.r1,hk h.r2,ho,fun d hd=>hk (h.rs d hd),hk hv,h.be.grown hg h.be.size (fun j e=>row_ge h.ks e),h.ge⟩
theorem EkN.store {wr:World} {X:Nat} {v1 v2:Value} {L1 L2:List Int} {G:Nat→List Int} {g:Nat→Value} {i:Nat} {vk vk' v:Value} {A:World} (h:EkN wr X v1 v2 L1 L2 G g i vk vk' v A):EkI wr X v1 v2 L1 L2 G (fun d=>if d=i then v else g d) (i+1) vk' (A.setCell ⟨X,0,none⟩ vk'):=by
  have hgs:=set_grown A X 0 vk'
  have hk:∀ {u:Value} {L:List Int},A.ownsRow wr.heap.size 3 1 u L.length (iCs L)→(A.setCell ⟨X,0,none⟩ vk').ownsRow wr.heap.size 3 1 u L.length (iCs L):=fun hu=>hu.kept hgs (.inr (row_not hu h.bx (by decide)))
  refine ⟨h.bx.set 0 vk',hk h.r1,hk h.r2,?_,fun d hd=>?_,h.be.grown hgs h.be.size (fun j e=>by cases e;exact h.ge),h.ge⟩
  · have e:(List.range (i+1)).map (fun d=>if d=i then v else g d)=(List.range i).map g++[v]:=by
      rw [List.range_succ,List.map_append,List.map_cons,List.map_nil,if_pos rfl]
      congr 1
      refine List.map_congr_left fun d hd=>?_
      have:=List.mem_range.1 hd
      rw [if_neg (by omega)]
    rw [e]
    exact h.ks.kept hgs (.inr (row_not h.ks h.bx (by decide)))
  · by_cases e:d=i
    · subst e
      simp only [if_true]
      exact hk h.rv
    · simp only [if_neg e]
      exact hk (h.rs d (by omega))
set_option maxRecDepth 100000 in
set_option maxHeartbeats 12800000 in
theorem aends_any (v1 v2 v3 v4:Value) (S:Sp) (ok:SpOk S) (fp:Nat→Value) (l:List Ev) (vl:Value) (w:World) (t:Tabs w) (hsp:SpRd w v1 v2 v3 v4 fp S) (hlv:ARd w vl 5 (l.map evC)) (hl:l.length≤50000) :
    Calls Tryz.prog 30 #[.agg #[v1,v2,v3,v4],vl] w (EnR S l w):=by
  obtain ⟨j0,hj0,jz0,jz1,jz2⟩:=info_parts ints_info2
  obtain ⟨al,cl,evl⟩:=hlv.evForm
  subst evl
  obtain ⟨⟨ad,cd,rfl⟩,_⟩:=hsp.forms
  have b0:=((Blk.new w 27 #[.slice ad S.ds.length cd,v2,v3,v4]).alloc (.cells #[.slice none 0 0,.slice none 0 0,.slice none 0 0] 70)).alloc (.cells #[.slice al l.length cl] 28)
  have b1:=(Blk.new (w.alloc (.cells #[.slice ad S.ds.length cd,v2,v3,v4] 27)) 70 #[.slice none 0 0,.slice none 0 0,.slice none 0 0]).alloc (.cells #[.slice al l.length cl] 28)
  have b2:=Blk.new ((w.alloc (.cells #[.slice ad S.ds.length cd,v2,v3,v4] 27)).alloc (.cells #[.slice none 0 0,.slice none 0 0,.slice none 0 0] 70)) 28 #[.slice al l.length cl]
  rw [World.size_alloc] at b1
  rw [World.size_alloc,World.size_alloc] at b2
  have hal:Below w.heap.size w (((w.alloc (.cells #[.slice ad S.ds.length cd,v2,v3,v4] 27)).alloc (.cells #[.slice none 0 0,.slice none 0 0,.slice none 0 0] 70)).alloc (.cells #[.slice al l.length cl] 28)):=(below_two w _ _).alloc (by simp;omega) _
  have HCK:=Lib.hid (acheck_any (.slice ad S.ds.length cd) v2 v3 v4 S ok fp w.heap.size _ [(.slice al l.length cl,l)] _ (t.below hal) (hsp.later hal) b0 (by simp) (fun x hx=>by rw [List.mem_singleton.1 hx];exact Nat.le_trans hl (by omega)) (evsR_one b2 (hlv.later hal)))
  rw [show ([(.slice al l.length cl,l)]:List (Value × List Ev)).map (·.2)=[l] from rfl,chkE_one] at HCK
  have B0:=Lib.hid b0
  have C0:=Lib.hid b1
  have HB0:=Lib.hid hal
  have HSP:=Lib.hid hsp
  have HLV:=Lib.hid hlv
  clear b0 b1 b2 hal hsp hlv t ok
  go_enter Tryz.func30,Tryz.ntmps30
  go_wp2_with fail
  refine (HCK.out).mono ?_
  rintro e W ⟨rfl,hb⟩
  have HB1:=Lib.hid (below_step HB0.out hb)
  have B1:=Lib.hid (B0.out.below hb)
  have C1:=Lib.hid (C0.out.below hb)
  clear HCK hb B0 C0 HB0
  obtain ⟨e0,he0⟩:∃ e0,audE S l=e0:=⟨_,rfl⟩
  have HE:=Lib.hid he0
  by_cases hE:e0=0
  case neg =>
    have HN:=Lib.hid hE
    rw [he0] at ⊢
    have q1:(e0==0)=false:=by simpa using hE
    have r0:W.cell? ⟨w.heap.size+1,0,none⟩=some (.slice none 0 0):=C1.out.cell 0
    have r1:W.cell? ⟨w.heap.size+1,1,none⟩=some (.slice none 0 0):=C1.out.cell 1
    have r2:W.cell? ⟨w.heap.size+1,2,none⟩=some (.slice none 0 0):=C1.out.cell 2
    have f0:=C1.out.frozen 0
    have f1:=C1.out.frozen 1
    have f2:=C1.out.frozen 2
    have HBL:=Lib.hid (hd_blk C1.out rfl (.slice none 0 0) (.slice none 0 0) (.slice none 0 0))
    have HG:=Lib.hid (((set_grown W (w.heap.size+1) 0 (.slice none 0 0)).trans (set_grown _ (w.heap.size+1) 1 (.slice none 0 0))).trans (set_grown _ (w.heap.size+1) 2 (.slice none 0 0)))
    have HB3:=Lib.hid (HB1.out.grown HG.out HB1.out.size (fun r e=>by cases e;omega))
    clear he0 hE
    go_wp2
    refine bodyPost_ret (results_cell_row_tmp rfl _ _ (w.heap.size+1) 70 _ (0,0) _ rfl HBL.out Tryz.underlying70 rfl (by kernel_rfl)) rfl ?_
    exact ⟨.slice none 0 0,.slice none 0 0,.slice none 0 0,by show Ending.returned (.tuple #[.agg #[.slice none 0 0,.slice none 0 0,.slice none 0 0],.int .i64 e0])=_;rw [HE.out],fun h=>absurd (HE.out.symm.trans h) HN.out,fun _=>⟨rfl,rfl,rfl⟩,HB3.out⟩
  subst hE
  rw [he0]
  obtain ⟨hck,hrk⟩:=audE_parts he0
  have HRC:=Lib.hid ((recE_iff hck).1 hrk)
  have HCKZ:=Lib.hid hck
  have hll:=HRC.out.1
  have hbe:=(Below.refl _ W).alloc (Nat.le_refl W.heap.size) (.cells (Tryz.zeroCells134.setIfInBounds 0 (.pointer (some ⟨w.heap.size,0,none⟩))) 134)
  have hpx:=PlX.start0 W w.heap.size
  clear he0 hck hrk
  go_upto_region 5 with fail
  generalize W.alloc (.cells (Tryz.zeroCells134.setIfInBounds 0 (.pointer (some ⟨w.heap.size,0,none⟩))) 134)=W3 at *
  have HI0:=Lib.hid (show PyI W (.slice ad S.ds.length cd) v2 v3 v4 fp S w.heap.size (onV (l.take 0)) (tickB l 0) W.heap.size W3 from ⟨HSP.out.later HB1.out,B1.out,hpx,hbe,Nat.le_refl _⟩)
  clear hpx hbe
  go_wp2
  go_loopw [22] (fun x w2=>∃ i:Nat,i≤l.length∧x = .int .i64 i∧RowKit.Hid (PyI W (.slice ad S.ds.length cd) v2 v3 v4 fp S w.heap.size (onV (l.take i)) (tickB l i) W.heap.size w2)) (fun x _=>l.length-(intOf x).toNat)
  case atStart=>exact ⟨0,Nat.zero_le _,rfl,HI0⟩
  clear HI0
  obtain ⟨i,hi,rfl,hI⟩:=hrel
  by_cases hil:i<l.length
  · have hi3:(i:Int)<(l.length:Int):=by omega
    obtain ⟨be,oe,c',ev,hec⟩:=(HLV.out.later HB1.out).evC' i hil
    cases ev
    have hbin:=bin_upto HCKZ.out (by omega:i≤l.length) (fun j hj=>HRC.out.2 j (by omega))
    have HPY:=Lib.hid (play_any W (.slice ad S.ds.length cd) v2 v3 v4 S HCKZ.out fp w.heap.size W.heap.size be (oe+i * 5) _ hbin _ l[i] wr hI.out hec)
    have hre:=(recF_evR (S:=S) hil).symm.trans (HRC.out.2 i hil)
    have HON:=Lib.hid (onV_take hil)
    have HTB:=Lib.hid (tickB_next hil)
    have HRE:=Lib.hid hre
    clear hre hbin hec hI
    go_wp2_with fail
    refine (HPY.out).mono ?_
    rintro e w4 (⟨h0,rfl,hpy,hg⟩ | ⟨h0,rfl,hb4,hg⟩)
    · have HI4:=Lib.hid hpy
      rw [← HON.out,← HTB.out] at HI4
      clear h0 hpy hg HPY
      go_wp2
      go_roundw
      case rel=>exact ⟨i+1,by omega,by go_num,HI4⟩
      case measure=>simp [intOf];omega
    · exact absurd HRE.out h0
  · have hi3:¬ (i:Int)<(l.length:Int):=by omega
    have hie:i=l.length:=by omega
    rw [hie,List.take_length] at hI
    clear hie
    have HP:=Lib.hid hI.out.px
    have HLT:=Lib.hid hI.out.px.lt
    have hok:=onOk_upto HCKZ.out (Nat.le_refl l.length) (fun j hj=>HRC.out.2 j hj)
    rw [List.take_length] at hok
    obtain ⟨l1,_,l3,l4⟩:=sp_lens HCKZ.out
    have hL1:onI (fun i=>decide (onV l (2,0,(i:Int))=1)) 80=onL (onV l) 2 S.ss.length:=onI_onL l3 (fun i hi q=>by have:=(hok.stop 0 i (by rw [q];decide)).2.2;omega)
    have hL2:onI (fun i=>decide (onV l (3,0,(i:Int))=1)) 24=onL (onV l) 3 S.cs.length:=onI_onL l4 (fun i hi q=>by have:=(hok.cou 0 i (by rw [q];decide)).2.2;omega)
    obtain ⟨L1,hM1⟩:∃ L,onL (onV l) 2 S.ss.length=L:=⟨_,rfl⟩
    obtain ⟨L2,hM2⟩:∃ L,onL (onV l) 3 S.cs.length=L:=⟨_,rfl⟩
    have HM:=Lib.hid (And.intro hM1 hM2)
    have HON1:=Lib.hid (fun (W':World) (hb:Below wr.heap.size wr W')=>(on_any (fun i=>decide (onV l (2,0,(i:Int))=1)) 80 (by omega) W.heap.size 769 80 W' (Nat.lt_of_lt_of_le HLT.out hb.size) (fun d hd=>by
      have h1:=HP.out.on (onIx_stop hd)
      rw [show 1+(768+d)=769+d by omega] at h1
      exact (hb.cell (cell_size h1)).trans h1)).mono (R':=IlR L1 W') (fun e w' h=>by unfold OnR at h;rw [hL1,hM1] at h;exact h))
    have HON2:=Lib.hid (fun (W':World) (hb:Below wr.heap.size wr W')=>(on_any (fun i=>decide (onV l (3,0,(i:Int))=1)) 24 (by omega) W.heap.size 849 24 W' (Nat.lt_of_lt_of_le HLT.out hb.size) (fun d hd=>by
      have h1:=HP.out.on (onIx_coupler hd)
      rw [show 1+(848+d)=849+d by omega] at h1
      exact (hb.cell (cell_size h1)).trans h1)).mono (R':=IlR L2 W') (fun e w' h=>by unfold OnR at h;rw [hL2,hM2] at h;exact h))
    clear hL1 hL2 hM1 hM2 hok l1 l3 l4
    have hdr:Below wr.heap.size wr wr.drew:=(Below.refl _ wr).drew
    have hda:∀ o,Below wr.heap.size wr (wr.alloc o).drew:=fun o=>((Below.refl _ wr).alloc (Nat.le_refl _) o).drew
    have HWR:=Lib.hid hI.out.be
    have HCB:=Lib.hid (And.intro B1.out C1.out)
    clear hI HLT HLV HRC B1 C1
    go_upto_region 10 with fail
    go_region_held3 (fun w'=>Below wr.heap.size wr w') (first | exact below_set3 hn3 hn.size _ _ _ | exact below_set3 hn3 (Nat.le_refl _) _ _ _ | exact below_set3 (hn3.alloc hn3.size _) hn3.size _ _ _ | exact hdr | exact hda _ | exact hn3 | exact hn3.alloc hn3.size _ | exact hn | exact hn.alloc hn.size _ | assumption | fail) (first | (go_at_call 63;(with_reducible refine (HON1.out _ hdr).mono ?_);rintro e w2 ⟨u1,rfl,ho1,hb2⟩;obtain ⟨a1,c1,rfl⟩:=row_formN ho1;have hn:Below wr.heap.size wr w2:=below_step hdr hb2;(try (have z2:Blk w2 wr.heap.size 70 #[.slice none 0 0,.slice none 0 0,.slice none 0 0]:=Blk.below (W:=(wr.alloc (.cells #[.slice none 0 0,.slice none 0 0,.slice none 0 0] 70)).drew) (show Blk (wr.alloc (.cells #[.slice none 0 0,.slice none 0 0,.slice none 0 0] 70)) wr.heap.size 70 #[.slice none 0 0,.slice none 0 0,.slice none 0 0] from Blk.new wr 70 #[.slice none 0 0,.slice none 0 0,.slice none 0 0]) hb2))) | (go_at_call 63;(with_reducible refine (HON1.out _ (hda _)).mono ?_);rintro e w2 ⟨u1,rfl,ho1,hb2⟩;obtain ⟨a1,c1,rfl⟩:=row_formN ho1;have hn:Below wr.heap.size wr w2:=below_step (hda _) hb2;(try (have z2:Blk w2 wr.heap.size 70 #[.slice none 0 0,.slice none 0 0,.slice none 0 0]:=Blk.below (W:=(wr.alloc (.cells #[.slice none 0 0,.slice none 0 0,.slice none 0 0] 70)).drew) (show Blk (wr.alloc (.cells #[.slice none 0 0,.slice none 0 0,.slice none 0 0] 70)) wr.heap.size 70 #[.slice none 0 0,.slice none 0 0,.slice none 0 0] from Blk.new wr 70 #[.slice none 0 0,.slice none 0 0,.slice none 0 0]) hb2))) | (go_at_call 63;(with_reducible refine (HON2.out _ hn).mono ?_);rintro e w3 ⟨u2,rfl,ho2,hb3⟩;obtain ⟨a2,c2,rfl⟩:=row_formN ho2;have hn3:Below wr.heap.size wr w3:=below_step hn hb3;(first | (have z3:Blk w3 wr.heap.size 70 #[.slice none 0 0,.slice none 0 0,.slice none 0 0]:=z2.below hb3;have q0:w3.cell? ⟨wr.heap.size,0,none⟩=some (.slice none 0 0):=z3.cell 0;have q1:w3.cell? ⟨wr.heap.size,1,none⟩=some (.slice none 0 0):=z3.cell 1;have q2:w3.cell? ⟨wr.heap.size,2,none⟩=some (.slice none 0 0):=z3.cell 2;have p0:w3.frozen? ⟨wr.heap.size,0,none⟩=false:=z3.frozen 0;have p1:w3.frozen? ⟨wr.heap.size,1,none⟩=false:=z3.frozen 1;have p2:w3.frozen? ⟨wr.heap.size,2,none⟩=false:=z3.frozen 2) | (have z3:Blk w3 w2.heap.size 70 #[.slice none 0 0,.slice none 0 0,.slice none 0 0]:=(Blk.new w2 70 #[.slice none 0 0,.slice none 0 0,.slice none 0 0]).below hb3;have q0:w3.cell? ⟨w2.heap.size,0,none⟩=some (.slice none 0 0):=z3.cell 0;have q1:w3.cell? ⟨w2.heap.size,1,none⟩=some (.slice none 0 0):=z3.cell 1;have q2:w3.cell? ⟨w2.heap.size,2,none⟩=some (.slice none 0 0):=z3.cell 2;have p0:w3.frozen? ⟨w2.heap.size,0,none⟩=false:=z3.frozen 0;have p1:w3.frozen? ⟨w2.heap.size,1,none⟩=false:=z3.frozen 1;have p2:w3.frozen? ⟨w2.heap.size,2,none⟩=false:=z3.frozen 2) | skip)) | (go_at_call 63;(with_reducible refine (HON2.out _ (hn.alloc hn.size _)).mono ?_);rintro e w3 ⟨u2,rfl,ho2,hb3⟩;obtain ⟨a2,c2,rfl⟩:=row_formN ho2;have hn3:Below wr.heap.size wr w3:=below_step (hn.alloc hn.size _) hb3;(first | (have z3:Blk w3 wr.heap.size 70 #[.slice none 0 0,.slice none 0 0,.slice none 0 0]:=z2.below hb3;have q0:w3.cell? ⟨wr.heap.size,0,none⟩=some (.slice none 0 0):=z3.cell 0;have q1:w3.cell? ⟨wr.heap.size,1,none⟩=some (.slice none 0 0):=z3.cell 1;have q2:w3.cell? ⟨wr.heap.size,2,none⟩=some (.slice none 0 0):=z3.cell 2;have p0:w3.frozen? ⟨wr.heap.size,0,none⟩=false:=z3.frozen 0;have p1:w3.frozen? ⟨wr.heap.size,1,none⟩=false:=z3.frozen 1;have p2:w3.frozen? ⟨wr.heap.size,2,none⟩=false:=z3.frozen 2) | (have z3:Blk w3 w2.heap.size 70 #[.slice none 0 0,.slice none 0 0,.slice none 0 0]:=(Blk.new w2 70 #[.slice none 0 0,.slice none 0 0,.slice none 0 0]).below hb3;have q0:w3.cell? ⟨w2.heap.size,0,none⟩=some (.slice none 0 0):=z3.cell 0;have q1:w3.cell? ⟨w2.heap.size,1,none⟩=some (.slice none 0 0):=z3.cell 1;have q2:w3.cell? ⟨w2.heap.size,2,none⟩=some (.slice none 0 0):=z3.cell 2;have p0:w3.frozen? ⟨w2.heap.size,0,none⟩=false:=z3.frozen 0;have p1:w3.frozen? ⟨w2.heap.size,1,none⟩=false:=z3.frozen 1;have p2:w3.frozen? ⟨w2.heap.size,2,none⟩=false:=z3.frozen 2) | skip)) | fail)
    all_goals first
      | (have b1:=row_base ho1 hdr.size
         have b2:=row_base ho2 (Nat.le_trans hn.size ((Below.refl w2.heap.size w2).alloc (Nat.le_refl _) (.cells #[.slice none 0 0,.slice none 0 0,.slice none 0 0] 70)).size)
         have HX:=Lib.hid (show EhI wr w2.heap.size (.slice a1 L1.length c1) (.slice a2 L2.length c2) L1 L2 (((w3.setCell ⟨w2.heap.size,0,none⟩ (.slice none 0 0)).setCell ⟨w2.heap.size,1,none⟩ (.slice a1 L1.length c1)).setCell ⟨w2.heap.size,2,none⟩ (.slice a2 L2.length c2)) from EhI.set z3 (row_later (row_later b1 ((Below.refl w2.heap.size w2).alloc (Nat.le_refl _) (.cells #[.slice none 0 0,.slice none 0 0,.slice none 0 0] 70))) hb3) b2 hn3 hn.size)
         clear ho1 ho2 b1 b2 hn hn3 hb3
         generalize ((w3.setCell ⟨w2.heap.size,0,none⟩ (.slice none 0 0)).setCell ⟨w2.heap.size,1,none⟩ (.slice a1 L1.length c1)).setCell ⟨w2.heap.size,2,none⟩ (.slice a2 L2.length c2)=Wx at *
         obtain ⟨X,hX⟩:∃ X,w2.heap.size=X:=⟨_,rfl⟩
         rw [hX] at HX ⊢
         clear hX)
      | (have b1:=row_base ho1 (hda _).size
         have b2:=row_base ho2 hn.size
         have HX:=Lib.hid (show EhI wr wr.heap.size (.slice a1 L1.length c1) (.slice a2 L2.length c2) L1 L2 (((w3.setCell ⟨wr.heap.size,0,none⟩ (.slice none 0 0)).setCell ⟨wr.heap.size,1,none⟩ (.slice a1 L1.length c1)).setCell ⟨wr.heap.size,2,none⟩ (.slice a2 L2.length c2)) from EhI.set z3 (row_later b1 hb3) b2 hn3 (Nat.le_refl _))
         clear ho1 ho2 b1 b2 hn hn3 hb3
         generalize ((w3.setCell ⟨wr.heap.size,0,none⟩ (.slice none 0 0)).setCell ⟨wr.heap.size,1,none⟩ (.slice a1 L1.length c1)).setCell ⟨wr.heap.size,2,none⟩ (.slice a2 L2.length c2)=Wx at *
         obtain ⟨X,hX⟩:∃ X,wr.heap.size=X:=⟨_,rfl⟩
         rw [hX] at HX ⊢
         clear hX)
      | (have b1:=row_base ho1 hdr.size
         have b2:=row_base ho2 hn.size
         have HX:=Lib.hid (show EhI wr w3.heap.size (.slice a1 L1.length c1) (.slice a2 L2.length c2) L1 L2 (w3.alloc (.cells #[.slice none 0 0,(.slice a1 L1.length c1),(.slice a2 L2.length c2)] 70)) from EhI.last ho1 hdr.size ho2 hn hb3)
         clear ho1 ho2 b1 b2 hn hn3 hb3
         generalize w3.alloc (.cells #[.slice none 0 0,(.slice a1 L1.length c1),(.slice a2 L2.length c2)] 70)=Wx at *
         obtain ⟨X,hX⟩:∃ X,w3.heap.size=X:=⟨_,rfl⟩
         rw [hX] at HX ⊢
         clear hX)
      | fail
    all_goals
      have HK:=Lib.hid (HX.out.start (fun d=>playedL (onV l) d))
      have HBX:=Lib.hid (below_step (below_step HB1.out HWR.out) HX.out.be)
      have x0:Wx.cell? ⟨w.heap.size,0,none⟩=some (.slice ad S.ds.length cd):=((HCB.out.1.below HWR.out).below HX.out.be).cell 0
      clear HX HON1 HON2 hdr hda
      go_wp2
      go_loopw [45] (fun x A=>∃ (d:Nat) (g:Nat→Value) (vk:Value),d≤S.ds.length∧x = .int .i64 d∧RowKit.Hid (EkI wr X (.slice a1 L1.length c1) (.slice a2 L2.length c2) L1 L2 (fun d=>playedL (onV l) d) g d vk A)) (fun x _=>S.ds.length-(intOf x).toNat)
      case atStart=>exact ⟨0,_,_,Nat.zero_le _,rfl,HK⟩
      clear HK x0 HBX
      obtain ⟨d,g,vk,hd,rfl,hK⟩:=hrel
      by_cases hdl:d<S.ds.length
      · have hd2:(d:Int)<(S.ds.length:Int):=by omega
        rename World=>A
        have HON:=Lib.hid (fun (W':World) (hb:Below A.heap.size A W')=>(on_any (fun i=>decide (onV l (1,(d:Int),(i:Int))=1)) 128 (by omega) W.heap.size (1+d * 128) 128 W' (Nat.lt_of_lt_of_le HP.out.lt (Nat.le_trans hK.out.be.size hb.size)) (fun k hk=>by
          have h1:=HP.out.on (onIx_key (d:=d) (n:=k) (by have:=sp_lens HCKZ.out;omega) hk)
          rw [show 1+(d * 128+k)=1+d * 128+k by omega] at h1
          have hbb:=below_step hK.out.be hb
          exact (hbb.cell (cell_size h1)).trans h1)).mono (R':=IlR (playedL (onV l) d) W') (fun e w' h=>by unfold OnR at h;rw [onI_played] at h;exact h))
        have m0:A.cell? ⟨X,0,none⟩=some vk:=hK.out.bx.cell 0
        have hd6:d<6:=by have:=sp_lens HCKZ.out;omega
        have hd7:(d:Int)<6:=by omega
        have hdr:Below A.heap.size A A.drew:=(Below.refl _ A).drew
        have md:A.drew.cell? ⟨X,0,none⟩=some vk:=m0
        have hpl:=len_playedL (onV l) d
        obtain ⟨PL,hPL⟩:∃ PL,playedL (onV l) d=PL:=⟨_,rfl⟩
        have HEK:=Lib.hid hK.out
        have HPN:=Lib.hid (fun (z:World) (hz:Below A.heap.size A z) (v:Value) (hv:z.ownsRow wr.heap.size 3 1 v PL.length (iCs PL)) (A2:World) (vk':Value) (hg:z.grownBy A2 vk.ownBlock) (ho:A2.ownsRow wr.heap.size 68 1 vk' (d+1) ((List.range d).map g++[v]))=>(hK.out.later hz).pushN (G:=fun d=>playedL (onV l) d) (by show z.ownsRow wr.heap.size 3 1 v (playedL (onV l) d).length (iCs (playedL (onV l) d));rw [hPL];exact hv) hg ho)
        have HKB:=Lib.hid hK.out.be
        rw [hPL] at HON hpl
        clear HE HCB HSP HP HCKZ HM HB1 hPL m0 md hK hdr
        go_upto_region 14 with fail
        have hmxx:Tryz.prog.follows .mixedOrders=true:=by kernel_rfl
        refine wp_normal (wp_region_flowJ (fun xX=>{ tmps:=#[.agg #[.slice ad S.ds.length cd,v2,v3,v4],.slice al l.length cl,.pointer (some ⟨w.heap.size,0,none⟩),undef,.pointer (some ⟨w.heap.size+1,0,none⟩),.int .i64 0,.int .i64 0,.pointer (some ⟨W.heap.size,0,none⟩),u8,.pointer (some ⟨X,0,none⟩),.int .i64 (d:Int),.slice al l.length cl,.slice (some ⟨w.heap.size+1+1,0,none⟩) 1 1,.int .i64 0,.int .i64 0,.bool false,undef,undef,.agg (Tryz.zeroCells134.setIfInBounds 0 (.pointer (some ⟨w.heap.size,0,none⟩))),.pointer (some ⟨W.heap.size,0,none⟩),.slice al l.length cl,.int .i64 (l.length:Int),.int .i64 (i:Int),.bool false,u24,u25,u26,u27,u28,u29,u30,.pointer (some ⟨W.heap.size,0,none⟩),.pointer (some ⟨W.heap.size,0,none⟩),.pointer (some ⟨W.heap.size,769,none⟩),.slice (some ⟨W.heap.size,769,none⟩) 80 80,.slice a1 L1.length c1,.pointer (some ⟨W.heap.size,0,none⟩),.pointer (some ⟨W.heap.size,0,none⟩),.pointer (some ⟨W.heap.size,849,none⟩),.slice (some ⟨W.heap.size,849,none⟩) 24 24,.slice a2 L2.length c2,.agg #[.slice none 0 0,.slice a1 L1.length c1,.slice a2 L2.length c2],.pointer (some ⟨w.heap.size,0,none⟩),.slice ad S.ds.length cd,.int .i64 (S.ds.length:Int),.int .i64 (d:Int),.bool true,.int .i64 (d:Int),(xX 48),(xX 49),(xX 50),(xX 51),(xX 52),(xX 53),(xX 54),(xX 55),(xX 56),(xX 57),(xX 58),(xX 59),u60,undef],defers:=[] }) (fun iI v z=>match iI with
          | 0=>v = .pointer (some ⟨X,0,none⟩)
          | 1=>v=vk
          | 2=>v = .pointer (some ⟨W.heap.size,0,none⟩)
          | 3=>v = .int .i64 d
          | 4=>v = .pointer (some ⟨W.heap.size,0,none⟩)
          | 5=>v = .pointer (some ⟨W.heap.size,1,none⟩)
          | 6=>v = .pointer (some ⟨W.heap.size,1+d * 128,none⟩)
          | 7=>v = .slice (some ⟨W.heap.size,1+d * 128,none⟩) 128 128
          | 8=>∃ (a9:Option Addr) (c9:Nat),v = .slice a9 PL.length c9∧z.ownsRow wr.heap.size 3 1 (.slice a9 PL.length c9) PL.length (iCs PL)
          | 9=>∃ (bb c9:Nat) (a9:Option Addr),v = .slice (some ⟨bb,0,none⟩) 1 1∧z.ownsRow wr.heap.size 3 1 (.slice a9 PL.length c9) PL.length (iCs PL)∧vk.ownBlock≠some bb∧z.cell? ⟨bb,0,none⟩=some (.slice a9 PL.length c9)
          | 10=>∃ (gg cap c9:Nat) (a9:Option Addr),v = .slice (some ⟨gg,0,none⟩) (d+1) cap∧EkN wr X (.slice a1 L1.length c1) (.slice a2 L2.length c2) L1 L2 (fun d=>playedL (onV l) d) g d vk (.slice (some ⟨gg,0,none⟩) (d+1) cap) (.slice a9 PL.length c9) z
          | 11=>v = .pointer (some ⟨X,0,none⟩)
          | 12=>True
          | _=>True) (JA 10 12 A (fun _ z=>∃ (vk':Value) (g':Nat→Value),EkI wr X (.slice a1 L1.length c1) (.slice a2 L2.length c2) L1 L2 (fun d=>playedL (onV l) d) g' (d+1) vk' z)) (fun n=>(#[.agg #[.slice ad S.ds.length cd,v2,v3,v4],.slice al l.length cl,.pointer (some ⟨w.heap.size,0,none⟩),undef,.pointer (some ⟨w.heap.size+1,0,none⟩),.int .i64 0,.int .i64 0,.pointer (some ⟨W.heap.size,0,none⟩),u8,.pointer (some ⟨X,0,none⟩),.int .i64 (d:Int),.slice al l.length cl,.slice (some ⟨w.heap.size+1+1,0,none⟩) 1 1,.int .i64 0,.int .i64 0,.bool false,undef,undef,.agg (Tryz.zeroCells134.setIfInBounds 0 (.pointer (some ⟨w.heap.size,0,none⟩))),.pointer (some ⟨W.heap.size,0,none⟩),.slice al l.length cl,.int .i64 (l.length:Int),.int .i64 (i:Int),.bool false,u24,u25,u26,u27,u28,u29,u30,.pointer (some ⟨W.heap.size,0,none⟩),.pointer (some ⟨W.heap.size,0,none⟩),.pointer (some ⟨W.heap.size,769,none⟩),.slice (some ⟨W.heap.size,769,none⟩) 80 80,.slice a1 L1.length c1,.pointer (some ⟨W.heap.size,0,none⟩),.pointer (some ⟨W.heap.size,0,none⟩),.pointer (some ⟨W.heap.size,849,none⟩),.slice (some ⟨W.heap.size,849,none⟩) 24 24,.slice a2 L2.length c2,.agg #[.slice none 0 0,.slice a1 L1.length c1,.slice a2 L2.length c2],.pointer (some ⟨w.heap.size,0,none⟩),.slice ad S.ds.length cd,.int .i64 (S.ds.length:Int),.int .i64 (d:Int),.bool true,.int .i64 (d:Int),u48,u49,u50,u51,u52,u53,u54,u55,u56,u57,u58,u59,u60,undef]:Array Value).getD n undef) rfl hmxx (by kernel_rfl) (by kernel_rfl) (ja_start (of_decide_eq_true (by kernel_rfl))) (fun ℓ ℓ' xX w h hj=>ja_cong (of_decide_eq_true (by kernel_rfl)) (of_decide_eq_true (by kernel_rfl)) ℓ ℓ' xX w h hj) ?put ?step ?done)
        case put =>
          intro iI oO dD ho hd xX vV
          match iI,ho with
          | 0,ho=>obtain rfl:=Option.some.inj (show some _=some oO from ho);obtain rfl:=Option.some.inj (show some _=some dD from hd);rfl
          | 1,ho=>obtain rfl:=Option.some.inj (show some _=some oO from ho);obtain rfl:=Option.some.inj (show some _=some dD from hd);rfl
          | 2,ho=>obtain rfl:=Option.some.inj (show some _=some oO from ho);obtain rfl:=Option.some.inj (show some _=some dD from hd);rfl
          | 3,ho=>obtain rfl:=Option.some.inj (show some _=some oO from ho);obtain rfl:=Option.some.inj (show some _=some dD from hd);rfl
          | 4,ho=>obtain rfl:=Option.some.inj (show some _=some oO from ho);obtain rfl:=Option.some.inj (show some _=some dD from hd);rfl
          | 5,ho=>obtain rfl:=Option.some.inj (show some _=some oO from ho);obtain rfl:=Option.some.inj (show some _=some dD from hd);rfl
          | 6,ho=>obtain rfl:=Option.some.inj (show some _=some oO from ho);obtain rfl:=Option.some.inj (show some _=some dD from hd);rfl
          | 7,ho=>obtain rfl:=Option.some.inj (show some _=some oO from ho);obtain rfl:=Option.some.inj (show some _=some dD from hd);rfl
          | 8,ho=>obtain rfl:=Option.some.inj (show some _=some oO from ho);obtain rfl:=Option.some.inj (show some _=some dD from hd);rfl
          | 9,ho=>obtain rfl:=Option.some.inj (show some _=some oO from ho);obtain rfl:=Option.some.inj (show some _=some dD from hd);rfl
          | 10,ho=>obtain rfl:=Option.some.inj (show some _=some oO from ho);obtain rfl:=Option.some.inj (show some _=some dD from hd);rfl
          | 11,ho=>obtain rfl:=Option.some.inj (show some _=some oO from ho);obtain rfl:=Option.some.inj (show some _=some dD from hd);rfl
          | 12,ho=>obtain rfl:=Option.some.inj (show some _=some oO from ho);cases hd
          | n+13,ho=>exact absurd (Array.getElem?_eq_some_iff.1 ho).1 (by simp)
        case step =>
          intro iI oO ho ℓ xX z hj hli hup hdl hdep K hK
          match iI,ho with
          | 0,ho =>
            obtain rfl:=Option.some.inj (show some _=some oO from ho)
            have hls:ℓ 12=false:=hup 12 12 (by kernel_rfl)
            have hPl:=fun xx w' (hb:Below z.heap.size z w')=>ja_plain (i:=0) (x':=xx) hj (by decide) (by decide) hls hb
            clear hdep ho hup
            dsimp only at hK ⊢
            refine wpOp_step rfl (fun K2 hK2=>?_)
            go_simp
            exact hK2 _ _ (hK _ _ (hPl _ _ (Below.refl _ _)) (fun _ _ _ _ h=>h) rfl)
          | 1,ho =>
            obtain rfl:=Option.some.inj (show some _=some oO from ho)
            have q0:xX 48 = .pointer (some ⟨X,0,none⟩):=hdep 0 (by kernel_rfl) _ _ rfl rfl
            have hls:ℓ 12=false:=hup 12 12 (by kernel_rfl)
            have hPl:=fun xx w' (hb:Below z.heap.size z w')=>ja_plain (i:=1) (x':=xx) hj (by decide) (by decide) hls hb
            have hz:=hj.1 (hup 12 10 (by kernel_rfl))
            have c0:z.cell? ⟨X,0,none⟩=some vk:=(HEK.out.later hz).bx.cell 0
            clear hdep ho hup
            dsimp only at hK ⊢
            simp only [q0] at hK ⊢
            refine wpOp_step rfl (fun K2 hK2=>?_)
            go_simp
            exact hK2 _ _ (hK _ _ (hPl _ _ (Below.refl _ _)) (fun _ _ _ _ h=>h) rfl)
          | 2,ho =>
            obtain rfl:=Option.some.inj (show some _=some oO from ho)
            have hls:ℓ 12=false:=hup 12 12 (by kernel_rfl)
            have hPl:=fun xx w' (hb:Below z.heap.size z w')=>ja_plain (i:=2) (x':=xx) hj (by decide) (by decide) hls hb
            clear hdep ho hup
            dsimp only at hK ⊢
            refine wpOp_step rfl (fun K2 hK2=>?_)
            go_simp
            exact hK2 _ _ (hK _ _ (hPl _ _ (Below.refl _ _)) (fun _ _ _ _ h=>h) rfl)
          | 3,ho =>
            obtain rfl:=Option.some.inj (show some _=some oO from ho)
            have hls:ℓ 12=false:=hup 12 12 (by kernel_rfl)
            have hPl:=fun xx w' (hb:Below z.heap.size z w')=>ja_plain (i:=3) (x':=xx) hj (by decide) (by decide) hls hb
            clear hdep ho hup
            dsimp only at hK ⊢
            refine wpOp_step rfl (fun K2 hK2=>?_)
            go_simp
            exact hK2 _ _ (hK _ _ (hPl _ _ (Below.refl _ _)) (fun _ _ _ _ h=>h) rfl)
          | 4,ho =>
            obtain rfl:=Option.some.inj (show some _=some oO from ho)
            have q2:xX 50 = .pointer (some ⟨W.heap.size,0,none⟩):=hdep 2 (by kernel_rfl) _ _ rfl rfl
            have hls:ℓ 12=false:=hup 12 12 (by kernel_rfl)
            have hPl:=fun xx w' (hb:Below z.heap.size z w')=>ja_plain (i:=4) (x':=xx) hj (by decide) (by decide) hls hb
            clear hdep ho hup
            dsimp only at hK ⊢
            simp only [q2] at hK ⊢
            refine wpOp_step rfl (fun K2 hK2=>?_)
            go_simp
            exact hK2 _ _ (hK _ _ (hPl _ _ (Below.refl _ _)) (fun _ _ _ _ h=>h) rfl)
          | 5,ho =>
            obtain rfl:=Option.some.inj (show some _=some oO from ho)
            have q4:xX 52 = .pointer (some ⟨W.heap.size,0,none⟩):=hdep 4 (by kernel_rfl) _ _ rfl rfl
            have hls:ℓ 12=false:=hup 12 12 (by kernel_rfl)
            have hPl:=fun xx w' (hb:Below z.heap.size z w')=>ja_plain (i:=5) (x':=xx) hj (by decide) (by decide) hls hb
            clear hdep ho hup
            dsimp only at hK ⊢
            simp only [q4] at hK ⊢
            refine wpOp_step rfl (fun K2 hK2=>?_)
            go_simp
            exact hK2 _ _ (hK _ _ (hPl _ _ (Below.refl _ _)) (fun _ _ _ _ h=>h) rfl)
          | 6,ho =>
            obtain rfl:=Option.some.inj (show some _=some oO from ho)
            have q5:xX 53 = .pointer (some ⟨W.heap.size,1,none⟩):=hdep 5 (by kernel_rfl) _ _ rfl rfl
            have q3:xX 51 = .int .i64 d:=hdep 3 (by kernel_rfl) _ _ rfl rfl
            have hls:ℓ 12=false:=hup 12 12 (by kernel_rfl)
            have hPl:=fun xx w' (hb:Below z.heap.size z w')=>ja_plain (i:=6) (x':=xx) hj (by decide) (by decide) hls hb
            clear hdep ho hup
            dsimp only at hK ⊢
            simp only [q5,q3] at hK ⊢
            refine wpOp_step rfl (fun K2 hK2=>?_)
            go_simp
            exact hK2 _ _ (hK _ _ (hPl _ _ (Below.refl _ _)) (fun _ _ _ _ h=>h) rfl)
          | 7,ho =>
            obtain rfl:=Option.some.inj (show some _=some oO from ho)
            have q6:xX 54 = .pointer (some ⟨W.heap.size,1+d * 128,none⟩):=hdep 6 (by kernel_rfl) _ _ rfl rfl
            have hls:ℓ 12=false:=hup 12 12 (by kernel_rfl)
            have hPl:=fun xx w' (hb:Below z.heap.size z w')=>ja_plain (i:=7) (x':=xx) hj (by decide) (by decide) hls hb
            clear hdep ho hup
            dsimp only at hK ⊢
            simp only [q6] at hK ⊢
            refine wpOp_step rfl (fun K2 hK2=>?_)
            go_simp
            exact hK2 _ _ (hK _ _ (hPl _ _ (Below.refl _ _)) (fun _ _ _ _ h=>h) rfl)
          | 8,ho =>
            obtain rfl:=Option.some.inj (show some _=some oO from ho)
            have q7:xX 55 = .slice (some ⟨W.heap.size,1+d * 128,none⟩) 128 128:=hdep 7 (by kernel_rfl) _ _ rfl rfl
            have hls:ℓ 12=false:=hup 12 12 (by kernel_rfl)
            have hPl:=fun xx w' (hb:Below z.heap.size z w')=>ja_plain (i:=8) (x':=xx) hj (by decide) (by decide) hls hb
            have hz:=hj.1 (hup 12 10 (by kernel_rfl))
            clear hdep ho hup
            dsimp only at hK ⊢
            simp only [q7] at hK ⊢
            refine wpOp_step rfl (fun K2 hK2=>?_)
            go_simp
            refine (HON.out z hz).mono ?_
            rintro e z1 ⟨u,rfl,ho,hb⟩
            obtain ⟨a9,c9,rfl⟩:=row_formN ho
            refine hK2 _ _ (hK _ _ (hPl _ _ hb) ?_ ⟨a9,c9,rfl,row_base ho (Nat.le_trans HKB.out.size hz.size)⟩)
            intro j v' hlj _ h
            match j,h with
            | 0,h=>exact h
            | 1,h=>exact h
            | 2,h=>exact h
            | 3,h=>exact h
            | 4,h=>exact h
            | 5,h=>exact h
            | 6,h=>exact h
            | 7,h=>exact h
            | 8,h=>obtain ⟨a9,c9,e,r⟩:=h;exact ⟨a9,c9,e,row_later r hb⟩
            | 9,h=>obtain ⟨bb,c9,a9,e,r,ne,c0⟩:=h;exact ⟨bb,c9,a9,e,row_later r hb,ne,(hb.cell (cell_size c0)).trans c0⟩
            | 10,h=>obtain ⟨gg,cap,c9,a9,e,r⟩:=h;exact ⟨gg,cap,c9,a9,e,r.later hb⟩
            | 11,h=>exact h
            | 12,h=>exact h
            | _+13,_=>trivial
          | 9,ho =>
            obtain rfl:=Option.some.inj (show some _=some oO from ho)
            have h8:∃ (a9:Option Addr) (c9:Nat),xX 56 = .slice a9 PL.length c9∧z.ownsRow wr.heap.size 3 1 (.slice a9 PL.length c9) PL.length (iCs PL):=hdep 8 (by kernel_rfl) _ _ rfl rfl
            obtain ⟨a9,c9,q8,r8⟩:=h8
            have hls:ℓ 12=false:=hup 12 12 (by kernel_rfl)
            have hPl:=fun xx w' (hb:Below z.heap.size z w')=>ja_plain (i:=9) (x':=xx) hj (by decide) (by decide) hls hb
            have hz:=hj.1 (hup 12 10 (by kernel_rfl))
            clear hdep ho hup
            dsimp only at hK ⊢
            simp only [q8] at hK ⊢
            refine wpOp_step rfl (fun K2 hK2=>?_)
            go_simp
            have hb:Below z.heap.size z (z.alloc (.cells #[.slice a9 PL.length c9] 68)):=(Below.refl _ _).alloc (Nat.le_refl _) _
            have hk:=Blk.new z 68 #[.slice a9 PL.length c9]
            refine hK2 _ _ (hK _ _ (hPl _ _ hb) ?_ ⟨z.heap.size,c9,a9,rfl,row_later r8 hb,fun e=>Nat.lt_irrefl _ (own_ltA (HEK.out.later hz).ks e),hk.cell 0⟩)
            intro j v' hlj _ h
            match j,h with
            | 0,h=>exact h
            | 1,h=>exact h
            | 2,h=>exact h
            | 3,h=>exact h
            | 4,h=>exact h
            | 5,h=>exact h
            | 6,h=>exact h
            | 7,h=>exact h
            | 8,h=>obtain ⟨a9,c9,e,r⟩:=h;exact ⟨a9,c9,e,row_later r hb⟩
            | 9,h=>obtain ⟨bb,c9,a9,e,r,ne,c0⟩:=h;exact ⟨bb,c9,a9,e,row_later r hb,ne,(hb.cell (cell_size c0)).trans c0⟩
            | 10,h=>obtain ⟨gg,cap,c9,a9,e,r⟩:=h;exact ⟨gg,cap,c9,a9,e,r.later hb⟩
            | 11,h=>exact h
            | 12,h=>exact h
            | _+13,_=>trivial
          | 10,ho =>
            obtain rfl:=Option.some.inj (show some _=some oO from ho)
            have q1:xX 49=vk:=hdep 1 (by kernel_rfl) _ _ rfl rfl
            have h9:∃ (bb c9:Nat) (a9:Option Addr),xX 57 = .slice (some ⟨bb,0,none⟩) 1 1∧z.ownsRow wr.heap.size 3 1 (.slice a9 PL.length c9) PL.length (iCs PL)∧vk.ownBlock≠some bb∧z.cell? ⟨bb,0,none⟩=some (.slice a9 PL.length c9):=hdep 9 (by kernel_rfl) _ _ rfl rfl
            obtain ⟨bb,c9,a9,q9,r9,ne9,c9c⟩:=h9
            have hz:=hj.1 hli
            have hls:ℓ 12=false:=hup 12 12 (by kernel_rfl)
            clear hdep ho hup
            dsimp only at hK ⊢
            simp only [q1,q9] at hK ⊢
            refine wpOp_step rfl (fun K2 hK2=>?_)
            refine step_append_lies _ rfl _ _ 67 rfl wr.heap.size 68 j0 _ 1 24 Tryz.underlying67 hj0 jz0 jz1 jz2 rfl (by omega) _ _ _ rfl (HEK.out.later hz).ks ⟨bb,0,none⟩ 1 1 [.slice a9 PL.length c9] rfl rfl (fun j u hu=>match j,hu with | 0,hu=>by cases hu;exact c9c | _+1,hu=>by cases hu) (by simp [Value.oneCell']) (by omega) (by unfold maxLen;omega) (by omega) (HEK.out.later hz).be.size z.heap.size rfl ?_
            intro gg cap w3 hown hgrow hat hlt
            refine hK2 _ _ (hK _ _ (ja_mid (by decide) hls) ?_ ⟨gg,cap,c9,a9,rfl,HPN.out z hz _ r9 w3 _ hgrow hown⟩)
            intro j v' hlj _ h
            match j,h with
            | 0,h=>exact h
            | 1,h=>exact h
            | 2,h=>exact h
            | 3,h=>exact h
            | 4,h=>exact h
            | 5,h=>exact h
            | 6,h=>exact h
            | 7,h=>exact h
            | 8,h=>obtain ⟨a9,c9,e,r⟩:=h;exact ⟨a9,c9,e,r.kept hgrow (row_apart r (HEK.out.later hz).ks (by decide))⟩
            | 9,h=>obtain ⟨bb,c9,a9,e,r,ne,c0⟩:=h;exact ⟨bb,c9,a9,e,r.kept hgrow (row_apart r (HEK.out.later hz).ks (by decide)),ne,hgrow.cell c0 (fun q=>ne q.symm)⟩
            | 10,h=>rw [hli] at hlj;cases hlj
            | 11,h=>exact h
            | 12,h=>exact h
            | _+13,_=>trivial
          | 11,ho =>
            obtain rfl:=Option.some.inj (show some _=some oO from ho)
            have hls:ℓ 12=false:=hup 12 12 (by kernel_rfl)
            have hPl:=fun xx w' (hb:Below z.heap.size z w')=>ja_plain (i:=11) (x':=xx) hj (by decide) (by decide) hls hb
            clear hdep ho hup
            dsimp only at hK ⊢
            refine wpOp_step rfl (fun K2 hK2=>?_)
            go_simp
            exact hK2 _ _ (hK _ _ (hPl _ _ (Below.refl _ _)) (fun _ _ _ _ h=>h) rfl)
          | 12,ho =>
            obtain rfl:=Option.some.inj (show some _=some oO from ho)
            have q11:xX 59 = .pointer (some ⟨X,0,none⟩):=hdep 11 (by kernel_rfl) _ _ rfl rfl
            have h10:∃ (gg cap c9:Nat) (a9:Option Addr),xX 58 = .slice (some ⟨gg,0,none⟩) (d+1) cap∧EkN wr X (.slice a1 L1.length c1) (.slice a2 L2.length c2) L1 L2 (fun d=>playedL (onV l) d) g d vk (.slice (some ⟨gg,0,none⟩) (d+1) cap) (.slice a9 PL.length c9) z:=hdep 10 (by kernel_rfl) _ _ rfl rfl
            obtain ⟨gg,cap,c9,a9,q10,r10⟩:=h10
            have s1:=r10.bx.cell 0
            have s2:=r10.bx.frozen 0
            clear hdep ho hup
            dsimp only at hK ⊢
            simp only [q11,q10] at hK ⊢
            refine wpOp_step rfl (fun K2 hK2=>?_)
            go_simp
            exact hK2 _ _ (hK undef _ (ja_last (.inr (hdl 1 10 (by kernel_rfl))) ⟨_,_,r10.store⟩) (fun _ _ _ hp _=>absurd hp (lastB_spec (by kernel_rfl) hdl)) trivial)
          | n+13,ho=>exact absurd (Array.getElem?_eq_some_iff.1 ho).1 (by simp)
        case done =>
          intro ℓ xX z hall hj
          have hf:=hj.2 (hall 12 (of_decide_eq_true (by kernel_rfl)))
          obtain ⟨vk',g',hfl⟩:=hf
          have HFL:=Lib.hid hfl
          clear hj hfl
          dsimp only
          go_wp2
          go_roundw
          case rel=>exact ⟨d+1,g',vk',by omega,by go_num,HFL⟩
          case measure=>simp [intOf];omega
      · have hd2:¬ (d:Int)<(S.ds.length:Int):=by omega
        have hde:d=S.ds.length:=by omega
        subst hde
        rename World=>A
        have HRD:=Lib.hid (show HdRd A vk (.slice a1 L1.length c1) (.slice a2 L2.length c2) S (onV l) from EkI.rd (by rw [HM.out.1,HM.out.2];exact hK.out))
        obtain ⟨⟨ak,ck,rfl⟩,_,_⟩:=HRD.out.forms
        have m0:A.cell? ⟨X,0,none⟩=some (.slice ak S.ds.length ck):=hK.out.bx.cell 0
        have m1:A.cell? ⟨X,1,none⟩=some (.slice a1 L1.length c1):=hK.out.bx.cell 1
        have m2:A.cell? ⟨X,2,none⟩=some (.slice a2 L2.length c2):=hK.out.bx.cell 2
        have C2:=Lib.hid ((HCB.out.2.below HWR.out).below hK.out.be)
        have r0:A.cell? ⟨w.heap.size+1,0,none⟩=some (.slice none 0 0):=C2.out.cell 0
        have r1:A.cell? ⟨w.heap.size+1,1,none⟩=some (.slice none 0 0):=C2.out.cell 1
        have r2:A.cell? ⟨w.heap.size+1,2,none⟩=some (.slice none 0 0):=C2.out.cell 2
        have f0:=C2.out.frozen 0
        have f1:=C2.out.frozen 1
        have f2:=C2.out.frozen 2
        have HBL:=Lib.hid (hd_blk C2.out rfl (.slice ak S.ds.length ck) (.slice a1 L1.length c1) (.slice a2 L2.length c2))
        have HG:=Lib.hid (((set_grown A (w.heap.size+1) 0 (.slice ak S.ds.length ck)).trans (set_grown _ (w.heap.size+1) 1 (.slice a1 L1.length c1))).trans (set_grown _ (w.heap.size+1) 2 (.slice a2 L2.length c2)))
        have HB9:=Lib.hid (below_step (below_step HB1.out HWR.out) hK.out.be)
        have HB3:=Lib.hid (HB9.out.grown HG.out HB9.out.size (fun r e=>by cases e;omega))
        have HRZ:=Lib.hid (EkI.rdG (f:=onV l) (by rw [HM.out.1,HM.out.2];exact hK.out) HG.out (Nat.lt_of_lt_of_le HCB.out.2.lt HWR.out.size))
        clear HRD hK
        go_wp2
        refine bodyPost_ret (results_cell_row_tmp rfl _ _ (w.heap.size+1) 70 _ (0,0) _ rfl HBL.out Tryz.underlying70 rfl (by kernel_rfl)) rfl ?_
        exact ⟨(.slice ak S.ds.length ck),(.slice a1 L1.length c1),(.slice a2 L2.length c2),by show Ending.returned (.tuple #[.agg #[(.slice ak S.ds.length ck),(.slice a1 L1.length c1),(.slice a2 L2.length c2)],.int .i64 0])=_;rw [HE.out],fun _=>HRZ.out,fun h=>absurd HE.out h,HB3.out⟩
end Go.Proofs.YthhfmppealmblaaGreatDoor
