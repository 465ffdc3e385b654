/-
  A part of the proof: UL.
-/
import Derived.Test.YteflhbfgpknabaaGreatDoorL12
set_option maxRecDepth 100000
set_option maxHeartbeats 12800000
namespace Go.Proofs.YteflhbfgpknabaaGreatDoor
open Go.Lib (hid)
open Go.RowKit
theorem set_info:(Tryz.prog.info? 202).map (fun i=>(i.zero,i.size,i.bytes))=some (some (.agg #[.int .u64 0,.int .u64 0]),2,16):=by kernel_rfl
theorem lis_info:(Tryz.prog.info? 254).map (fun i=>(i.zero,i.size,i.bytes))=some (some (.slice none 0 0),1,24):=by kernel_rfl
theorem make_sets (n:Nat) (hn:n≤100000):∀ w:World,(Instr.makeSlice 170 (.int .i64 (n:Int)) (.int .i64 (n:Int))).run Tryz.prog w = .ok (.slice (some ⟨w.heap.size,0,none⟩) n n) (w.alloc (.cells (madeCells #[.int .u64 0,.int .u64 0] (n * 2)) 202)):=by
 intro w
 obtain ⟨i0,hi,hz0,hz1,hz2⟩:=info_parts set_info
 have:=run_make_rowN (P:=Tryz.prog) 170 202 i0 _ Tryz.underlying170 hi hz0 .i64 .i64 n n (Nat.le_refl _) (by rw [hz2];omega) (by omega) w
 rw [hz1] at this
 exact this
theorem AsM.start (w:World) (v1 v2 v3 v4 vk vs vc:Value) (n:Nat):AsM w ⟨w.heap.size,w.heap.size+1,w.heap.size+1+1,w.heap.size+1+1+1,w.heap.size+1+1+1+1,w.heap.size+1+1+1+1+1⟩ v1 v2 v3 v4 vk vs vc n []
  ((((((w.alloc (.cells #[v1,v2,v3,v4] 27)).alloc (.cells #[vk,vs,vc] 32)).alloc (.cells (madeCells #[.int .u64 0,.int .u64 0] (n * 2)) 202)).alloc (.map #[] 0)).alloc (.cells #[.slice (some ⟨w.heap.size+1+1,0,none⟩) n n,.map (some (w.heap.size+1+1+1))] 238)).alloc (.cells #[.pointer (some ⟨w.heap.size+1+1+1+1,0,none⟩)] 234)):=by
 obtain ⟨W1,e1⟩:∃ W1,w.alloc (.cells #[v1,v2,v3,v4] 27)=W1:=⟨_,rfl⟩
 have s1:W1.heap.size=w.heap.size+1:=by rw [← e1];exact World.size_alloc _ _
 have b1:Below w.heap.size w W1:=by rw [← e1];exact (Below.refl _ _).alloc (Nat.le_refl _) _
 have k1:Blk W1 w.heap.size 27 #[v1,v2,v3,v4]:=by rw [← e1];exact Blk.new _ _ _
 rw [e1]
 obtain ⟨W2,e2⟩:∃ W2,W1.alloc (.cells #[vk,vs,vc] 32)=W2:=⟨_,rfl⟩
 have s2:W2.heap.size=w.heap.size+1+1:=by rw [← e2,World.size_alloc,s1]
 have b2:Below W1.heap.size W1 W2:=by rw [← e2];exact (Below.refl _ _).alloc (Nat.le_refl _) _
 have k2:Blk W2 (w.heap.size+1) 32 #[vk,vs,vc]:=by rw [← e2,← s1];exact Blk.new _ _ _
 rw [e2]
 obtain ⟨W3,e3⟩:∃ W3,W2.alloc (.cells (madeCells #[.int .u64 0,.int .u64 0] (n * 2)) 202)=W3:=⟨_,rfl⟩
 have s3:W3.heap.size=w.heap.size+1+1+1:=by rw [← e3,World.size_alloc,s2]
 have b3:Below W2.heap.size W2 W3:=by rw [← e3];exact (Below.refl _ _).alloc (Nat.le_refl _) _
 have k3:KsI W3 (w.heap.size+1+1) n []:=by rw [← e3,← s2];exact KsI.start _ _
 rw [e3]
 obtain ⟨W4,e4⟩:∃ W4,W3.alloc (.map #[] 0)=W4:=⟨_,rfl⟩
 have s4:W4.heap.size=w.heap.size+1+1+1+1:=by rw [← e4,World.size_alloc,s3]
 have b4:Below W3.heap.size W3 W4:=by rw [← e4];exact (Below.refl _ _).alloc (Nat.le_refl _) _
 have k4:Mp ekG W4 (w.heap.size+1+1+1) []:=by rw [← e4,← s3];exact Mp.made _
 rw [e4]
 obtain ⟨W5,e5⟩:∃ W5,W4.alloc (.cells #[.slice (some ⟨w.heap.size+1+1,0,none⟩) n n,.map (some (w.heap.size+1+1+1))] 238)=W5:=⟨_,rfl⟩
 have s5:W5.heap.size=w.heap.size+1+1+1+1+1:=by rw [← e5,World.size_alloc,s4]
 have b5:Below W4.heap.size W4 W5:=by rw [← e5];exact (Below.refl _ _).alloc (Nat.le_refl _) _
 have k5:Blk W5 (w.heap.size+1+1+1+1) 238 #[.slice (some ⟨w.heap.size+1+1,0,none⟩) n n,.map (some (w.heap.size+1+1+1))]:=by rw [← e5,← s4];exact Blk.new _ _ _
 rw [e5]
 have b6:Below W5.heap.size W5 (W5.alloc (.cells #[.pointer (some ⟨w.heap.size+1+1+1+1,0,none⟩)] 234)):=(Below.refl _ _).alloc (Nat.le_refl _) _
 have k6:=Blk.new W5 234 #[.pointer (some ⟨w.heap.size+1+1+1+1,0,none⟩)]
 rw [s5] at k6
 exact ⟨below_step (below_step (below_step (below_step (below_step b1 b2) b3) b4) b5) b6,by show w.heap.size≤w.heap.size+1+1;omega,by show w.heap.size≤w.heap.size+1+1+1;omega,
  ((((k1.below b2).below b3).below b4).below b5).below b6,(((k2.below b3).below b4).below b5).below b6,((k3.below b4).below b5).below b6,⟨[],(k4.below b5).below b6⟩,k5.below b6,k6⟩
def ActS (S:Sp) (f:Th→Int) (w:World) (e:Ending) (w':World):Prop:=∃ (A:AsA) (m:List Pl),e = .returned (.pointer (some ⟨A.ab,0,none⟩))∧(∀ x,x∈m↔Acts S f x)∧Below w.heap.size w w'∧w.heap.size≤A.kb∧KsI w' A.kb S.ds.length m ∧
 Blk w' A.ab 238 #[.slice (some ⟨A.kb,0,none⟩) S.ds.length S.ds.length,.map (some A.mb)]
theorem AsM.wrote {w:World} {A:AsA} {v1 v2 v3 v4 vk vs vc:Value} {n:Nat} {m:List Pl} {W W':World} (h:AsM w A v1 v2 v3 v4 vk vs vc n m W) {base k size:Nat} {T:TypeId} {v:Value} {xs:List Value} (hr:W.ownsRow base T size v k xs) (h1:T≠27) (h2:T≠32) (h3:T≠202) (h4:T≠238) (h5:T≠234) (hb:w.heap.size≤base) (hg:W.grownBy W' v.ownBlock):AsM w A v1 v2 v3 v4 vk vs vc n m W':=by
 rcases hr.2 with ⟨rfl,_⟩ | ⟨g,cap,cur,rfl,q2,q3,_⟩
 ·exact h.low ⟨hg.os,hg.tape,hg.output,hg.size,fun i hi=>hg.block i hi (by simp [Value.ownBlock])⟩
 ·exact h.far (Nat.le_trans hb q2) (show Blk W g T cur from q3) h1 h2 h3 h4 h5 hg
def GoP (S:Sp) (l:List Pl):Prop:=OneDiv l∧(∀ x∈l,keyOk S x=true)∧l.length≤768
theorem GpI.at' {W:World} {base:Nat} {v:Value} {ps:List (SlA × List Pl)} (h:GpI W base v ps) {j:Nat} (hj:j<ps.length):∃ b o c,v = .slice (some ⟨b,o,none⟩) ps.length c∧b<W.heap.size∧W.cell? ⟨b,o+j,none⟩=some (encS ps[j].1):=by
 have h1:ARd W v 1 (ps.map fun p=>[encS p.1]):=ARd.of_row (base:=base) (t:=254) (rows:=ps.map fun p=>[encS p.1]) (fun r hr=>by obtain ⟨x,_,rfl⟩:=List.mem_map.1 hr;rfl) (by
  have:=h.out
  rw [List.length_map,show (ps.map fun p=>[encS p.1]).flatten=ps.map fun p=>encS p.1 by rw [← List.flatMap_def,← List.map_eq_flatMap]]
  exact this)
 obtain ⟨b,o,c,e,hlt,hc⟩:=h1.at j (by simpa using hj)
 rw [List.getElem_map] at hc
 rw [List.length_map] at e
 exact ⟨b,o,c,e,hlt,by have:=hc 0 _ rfl;simpa using this⟩
theorem drop_flat {α:Type} (q:α→List Pl) {ps:List α} {j:Nat} (hj:j<ps.length):((ps.drop j).map q).flatten=q ps[j]++((ps.drop (j+1)).map q).flatten:=by
 rw [List.drop_eq_getElem_cons hj,List.map_cons,List.flatten_cons]
theorem actingS_any (v1 v2 v3 v4 vk vs vc:Value) (S:Sp) (hc:(checkP S).2=0) (fp:Nat→Value) (f:Th→Int) (hf:OnOk S f) (w:World) (hsp:SpRd w v1 v2 v3 v4 fp S) (hh:HcRd w vk vs vc S f) :
  Calls Tryz.prog 183 #[.agg #[v1,v2,v3,v4],.agg #[vk,vs,vc]] w (ActS S f w):=by
 obtain ⟨l1,_,_,l4⟩:=sp_lens hc
 obtain ⟨⟨a1,c1,rfl⟩,_,_,⟨a4,c4,rfl⟩⟩:=hsp.forms
 obtain ⟨⟨ak,ck,rfl⟩,_,⟨ac,cc,rfl⟩⟩:=hh.forms
 obtain ⟨i0,hi0,hz0,hz1,hz2⟩:=info_parts gp_info
 obtain ⟨j0,hj0,jz0,jz1,jz2⟩:=info_parts lis_info
 have hmm:=@run_makeMap Tryz.prog
 have hmk:=make_sets S.ds.length (by omega)
 have hm0:=AsM.start w (.slice a1 S.ds.length c1) v2 v3 (.slice a4 S.cs.length c4) (.slice ak S.ds.length ck) vs (.slice ac (onL f 3 S.cs.length).length cc) S.ds.length
 have HSP:=hid hsp
 have HH:=hid hh
 have HC:=hid hc
 have HF:=hid hf
 clear hsp hh hf
 go_enter Tryz.func183,Tryz.ntmps183
 go_upto_region 2 with fail
 obtain ⟨A,hA⟩:∃ A:AsA,A=⟨w.heap.size,w.heap.size+1,w.heap.size+1+1,w.heap.size+1+1+1,w.heap.size+1+1+1+1,w.heap.size+1+1+1+1+1⟩:=⟨_,rfl⟩
 have e5:w.heap.size+1+1+1+1+1=A.pa:=by rw [hA]
 have e4:w.heap.size+1+1+1+1=A.ab:=by rw [hA]
 have e3:w.heap.size+1+1+1=A.mb:=by rw [hA]
 have e2:w.heap.size+1+1=A.kb:=by rw [hA]
 have e1:w.heap.size+1=A.b1:=by rw [hA]
 have e0:w.heap.size=A.b0:=by rw [hA]
 rw [← hA] at hm0
 generalize (((((w.alloc (.cells #[.slice a1 S.ds.length c1,v2,v3,.slice a4 S.cs.length c4] 27)).alloc (.cells #[.slice ak S.ds.length ck,vs,.slice ac (onL f 3 S.cs.length).length cc] 32)).alloc (.cells (madeCells #[.int .u64 0,.int .u64 0] (S.ds.length * 2)) 202)).alloc (.map #[] 0)).alloc (.cells #[.slice (some ⟨w.heap.size+1+1,0,none⟩) S.ds.length S.ds.length,.map (some (w.heap.size+1+1+1))] 238)).alloc (.cells #[.pointer (some ⟨w.heap.size+1+1+1+1,0,none⟩)] 234)=W1 at *
 rw [e5,e4,e3,e2,e1,e0]
 obtain ⟨n,hn⟩:∃ n,S.ds.length=n:=⟨_,rfl⟩
 obtain ⟨cl,hcl⟩:∃ cl,onL f 3 S.cs.length=cl:=⟨_,rfl⟩
 rw [hn,hcl] at hm0 ⊢
 have HM0:=hid (show AsM w A (.slice a1 n c1) v2 v3 (.slice a4 S.cs.length c4) (.slice ak n ck) vs (.slice ac cl.length cc) n (keysM f 0 0) W1 from hm0)
 have HN:=hid hn
 have HCL:=hid hcl
 have h0:W1.cell? ⟨A.b1,0,none⟩=some (.slice ak n ck):=hm0.hd.cell 0
 have HCO:=hid (show ∀ W',Below w.heap.size w W'→ARd W' (.slice ac cl.length cc) 1 (cl.map iC) from fun W' hb=>by have:=(HH.out.later hb).cous;rw [HCL.out] at this;exact this)
 have HCL24:=hid (show cl.length≤24 by rw [← HCL.out];have:=len_onL f 3 S.cs.length;omega)
 have HON:=hid (show ∀ x∈cl,∃ i:Nat,i<S.cs.length∧x=(i:Int)∧f (3,0,(i:Int))=1 from fun x hx=>by
  rw [← HCL.out] at hx
  obtain ⟨h1,h2,h3⟩:=mem_onL.1 hx
  obtain ⟨i,rfl⟩:=Int.eq_ofNat_of_zero_le h1
  exact ⟨i,by omega,rfl,h3⟩)
 have HRE:=hid (fun (i:Nat) (hi:i<S.cs.length) (l:List Pl) (hl:l.length≤1000) (hx:∀ x∈l,0≤x.2∧x.2<128) (gv:Value) (m:List Pl) (hnd:m.Nodup) (hok:∀ x∈m,keyOk S x=true) (W:World) (h:AsM w A (.slice a1 S.ds.length c1) v2 v3 (.slice a4 S.cs.length c4) (.slice ak n ck) vs (.slice ac cl.length cc) S.ds.length m W) (base:Nat) (hg:W.ownsRow base 251 2 gv l.length (gpCs l))=>reached_any (.slice a1 S.ds.length c1) v2 v3 (.slice a4 S.cs.length c4) (.slice ak n ck) vs (.slice ac cl.length cc) S hc fp w HSP.out A i hi l hl hx gv m hnd hok W h base hg)
 rw [hn] at HRE
 clear hA e5 e4 e3 e2 e1 e0 hm0 hmm hmk hn hcl hc
 rw [HN.out] at l1
 go_wp2
 clear h0
 go_loopw [34] (fun x wr=>∃ d:Nat,d≤n∧x = .int .i64 d∧Hid (AsM w A (.slice a1 n c1) v2 v3 (.slice a4 S.cs.length c4) (.slice ak n ck) vs (.slice ac cl.length cc) n (keysM f d 0) wr)) (fun x _=>n-(intOf x).toNat)
 case atStart=>exact ⟨0,Nat.zero_le _,rfl,HM0⟩
 clear HM0
 obtain ⟨d,hd,rfl,hM⟩:=hrel
 by_cases hdn:d<n
 ·have hd2:(d:Int)<(n:Int):=by omega
  obtain ⟨b,o,c',g,ev,hbl,k0,hg,_⟩:=HH.out.keyAt (d:=d) (by rw [HN.out];exact hdn)
  cases ev
  obtain ⟨ag,cg,rfl⟩:=hg.intForm
  replace k0:=(hM.out.b.cell hbl).trans k0
  have HG:=hid hg
  have hlp:=len_playedL f (d:Int)
  have HKN:=hid (fun (j:Nat) (hj:j<(playedL f (d:Int)).length)=>keysM_next (f:=f) (d:=d) hj)
  have HKE:=hid (fun (j:Nat) (hj:(playedL f (d:Int)).length≤j)=>keysM_row (f:=f) (d:=d) hj)
  have HKR:=hid (show ∀ x∈playedL f (d:Int),0≤x∧x<128 from fun x hx=>⟨(mem_playedL.1 hx).1,(mem_playedL.1 hx).2.1⟩)
  obtain ⟨L,hL⟩:∃ L,playedL f (d:Int)=L:=⟨_,rfl⟩
  rw [hL] at k0 HG hlp HKE HKR
  have HKN2:=hid (show ∀ (j:Nat) (hj:j<L.length),keysM f d (j+1)=keysM f d j++[((d:Int),L[j])] from by subst hL;exact HKN.out)
  clear hL hg HKN hbl
  go_wp2
  clear k0
  go_loopw [41] (fun x wr=>∃ j:Nat,j≤L.length∧x = .int .i64 j∧Hid (AsM w A (.slice a1 n c1) v2 v3 (.slice a4 S.cs.length c4) (.slice (some ⟨b,o,none⟩) n ck) vs (.slice ac cl.length cc) n (keysM f d j) wr)) (fun x _=>L.length-(intOf x).toNat)
  case atStart=>exact ⟨0,Nat.zero_le _,rfl,hM⟩
  clear hM
  obtain ⟨j,hj,rfl,hM⟩:=hrel
  by_cases hjl:j<L.length
  ·have hj2:(j:Int)<(L.length:Int):=by omega
   obtain ⟨b2,o2,c2,ev,hbl,k1⟩:=(HG.out.later hM.out.b).intAt j hjl
   cases ev
   have hr:=HKR.out _ (List.getElem_mem hjl)
   have HK:=hid (HKN2.out j hjl)
   obtain ⟨x,hx⟩:∃ x,L[j]=x:=⟨_,rfl⟩
   rw [hx] at k1 hr HK
   obtain ⟨t,rfl⟩:=Int.eq_ofNat_of_zero_le hr.1
   have ht:t<128:=by omega
   have pa0:wr.cell? ⟨A.pa,0,none⟩=some (.pointer (some ⟨A.ab,0,none⟩)):=hM.out.pa.cell 0
   have ab0:wr.cell? ⟨A.ab,0,none⟩=some (.slice (some ⟨A.kb,0,none⟩) n n):=hM.out.ab.cell 0
   clear hx hr
   go_wp2_with fail
   refine (addK_any wr A.kb n _ hM.out.ks d hdn t ht).mono ?_
   rintro e w3 ⟨rfl,hk3,hg3,hs3⟩
   have HM3:=hid (hM.out.key hk3 hg3)
   clear hk3 hg3 hs3 pa0 ab0 k1 hM
   rw [← HK.out] at HM3
   have pa0:w3.cell? ⟨A.pa,0,none⟩=some (.pointer (some ⟨A.ab,0,none⟩)):=HM3.out.pa.cell 0
   have ab1:w3.cell? ⟨A.ab,1,none⟩=some (.map (some A.mb)):=HM3.out.ab.cell 1
   obtain ⟨es,hes⟩:=HM3.out.mp
   go_upto_region 10 with (at_mapUpdate;refine wpList_update_mp _ rfl _ _ _ 236 rfl 253 gp_keys Tryz.underlying236 rfl hes ((d:Int),(t:Int)) (.agg #[.int .i64 (-1),.int .i64 0,.int .i64 0]) rfl rfl ?_;intro w4 hm4 hg4 hs4)
   have HM4:=hid (HM3.out.upd hes hm4 hg4)
   clear hes hm4 hg4 hs4 pa0 ab1 HM3
   go_wp2
   go_roundw
   case rel=>exact ⟨j+1,by omega,by go_num,HM4⟩
   case measure=>simp [intOf];omega
  ·have hj2:¬ (j:Int)<(L.length:Int):=by omega
   rw [HKE.out j (by omega)] at hM
   go_wp2
   go_roundw
   case rel=>exact ⟨d+1,by omega,by go_num,hM⟩
   case measure=>simp [intOf];omega
 ·have hd2:¬ (d:Int)<(n:Int):=by omega
  have hdn2:d=n:=by omega
  rw [hdn2] at hM
  have hag:=AgP.first (S:=S) HF.out
  rw [HN.out] at hag
  have HAG:=hid (show AgP S f (cl.take 0) (keysM f n 0) (([]:List (SlA × List Pl)).map (·.2)).flatten from hag)
  have hc1:wr.cell? ⟨A.b1,2,none⟩=some (.slice ac cl.length cc):=hM.out.hd.cell 2
  have HGP:=hid (GpI.nil wr w.heap.size)
  have HOD:Hid (∀ p∈([]:List (SlA × List Pl)),GoP S p.2):=hid (fun p h=>by cases h)
  clear hdn2 hag hd hdn
  go_wp2
  clear hc1 hd2
  go_loopw [11,67] (fun v x wr=>∃ (k:Nat) (ps:List (SlA × List Pl)) (m:List Pl),k≤cl.length∧x = .int .i64 k∧ps.length=k∧Hid (AsM w A (.slice a1 n c1) v2 v3 (.slice a4 S.cs.length c4) (.slice ak n ck) vs (.slice ac cl.length cc) n m wr)∧Hid (GpI wr w.heap.size v ps)∧Hid (AgP S f (cl.take k) m (ps.map (·.2)).flatten)∧Hid (∀ p∈ps,GoP S p.2)) (fun _ x _=>cl.length-(intOf x).toNat)
  case atStart=>exact ⟨0,[],_,Nat.zero_le _,rfl,rfl,hM,HGP,HAG,HOD⟩
  clear hM HGP HAG HOD
  obtain ⟨k,ps,m,hk,rfl,hps,hM,hG,hA,hO⟩:=hrel
  by_cases hkl:k<cl.length
  ·have hk2:(k:Int)<(cl.length:Int):=by omega
   obtain ⟨b5,o5,c5,ev,hbl5,k5⟩:=(HCO.out wr hM.out.b).intAt k hkl
   cases ev
   obtain ⟨i,hi,hin,hon⟩:=HON.out _ (List.getElem_mem hkl)
   have HTK:=hid (show cl.take (k+1)=cl.take k++[(i:Int)] by rw [List.take_succ_eq_append_getElem hkl,hin])
   rw [hin] at k5
   obtain ⟨b,o,c',ev,hbl,r0,r1,r2,r3,r4,r5⟩:=HSP.out.cAt i hi
   cases ev
   obtain ⟨p0,p1,p2,p3,p4,p5,p6,p7,_⟩:=cp_good HC.out (List.getElem_mem hi)
   have HRC:=hid (fun (l:List Pl) (hl:l=(takes S.cs[i].only (playedL f S.cs[i].frm)).map fun k=>(S.cs[i].frm,k))=>hA.out.reach hi hon hl)
   obtain ⟨nm,hnm⟩:∃ x,S.cs[i].name=x:=⟨_,rfl⟩
   obtain ⟨frI,hfr⟩:∃ x,S.cs[i].frm=x:=⟨_,rfl⟩
   obtain ⟨toI,hto⟩:∃ x,S.cs[i].to=x:=⟨_,rfl⟩
   obtain ⟨sh,hsh⟩:∃ x,S.cs[i].shift=x:=⟨_,rfl⟩
   obtain ⟨on,hon2⟩:∃ x,S.cs[i].only=x:=⟨_,rfl⟩
   obtain ⟨th,hth⟩:∃ x,S.cs[i].thr=x:=⟨_,rfl⟩
   rw [hnm] at r0
   rw [hfr] at r1 p0 p1 HRC
   rw [hto] at r2
   rw [hsh] at r3
   rw [hon2] at r4 p6 p7 HRC
   rw [hth] at r5
   obtain ⟨fr,rfl⟩:=Int.eq_ofNat_of_zero_le p0
   rw [HN.out] at p1
   have hfr2:fr<n:=by omega
   replace r0:=(hM.out.b.cell hbl).trans r0
   replace r1:=(hM.out.b.cell hbl).trans r1
   replace r2:=(hM.out.b.cell hbl).trans r2
   replace r3:=(hM.out.b.cell hbl).trans r3
   replace r4:=(hM.out.b.cell hbl).trans r4
   replace r5:=(hM.out.b.cell hbl).trans r5
   have hi2:(i:Int)<(S.cs.length:Int):=by omega
   have hcs3:wr.cell? ⟨A.b0,3,none⟩=some (.slice (some ⟨b,o,none⟩) S.cs.length c4):=hM.out.sp.cell 3
   have HAP:=hid hA.out
   clear hnm hfr hto hsh hon2 hth p0 hin hA
   go_upto_region 19 with fail
   have hb2:Below wr.heap.size wr (wr.alloc (.cells #[.string nm,.int .i64 fr,.int .i64 toI,.int .i64 sh,.int .i64 on,.bool th] 145)):=(Below.refl _ wr).alloc (Nat.le_refl _) _
   have HM2:=hid (hM.out.low hb2)
   have HB2:=hid hb2
   have HP2:=hid (Blk.new wr 145 #[.string nm,.int .i64 fr,.int .i64 toI,.int .i64 sh,.int .i64 on,.bool th])
   obtain ⟨P,hP⟩:∃ P,wr.heap.size=P:=⟨_,rfl⟩
   rw [hP] at HP2 ⊢
   generalize wr.alloc (.cells #[.string nm,.int .i64 fr,.int .i64 toI,.int .i64 sh,.int .i64 on,.bool th] 145)=W2 at *
   clear r0 r1 r2 r3 r4 r5 hcs3 hb2 hP k5 hbl hbl5
   obtain ⟨bk,ok',ck2,g,ev,hblk,kk,hgr,hgc⟩:=(HH.out.later HM2.out.b).keyAt (d:=fr) (by rw [HN.out];exact hfr2)
   cases ev
   have z0:W2.cell? ⟨P,0,none⟩=some (.string nm):=HP2.out.cell 0
   have z1:W2.cell? ⟨P,1,none⟩=some (.int .i64 fr):=HP2.out.cell 1
   have z2:W2.cell? ⟨P,2,none⟩=some (.int .i64 toI):=HP2.out.cell 2
   have z3:W2.cell? ⟨P,3,none⟩=some (.int .i64 sh):=HP2.out.cell 3
   have z4:W2.cell? ⟨P,4,none⟩=some (.int .i64 on):=HP2.out.cell 4
   have z5:W2.cell? ⟨P,5,none⟩=some (.bool th):=HP2.out.cell 5
   have y0:W2.cell? ⟨A.b1,0,none⟩=some (.slice (some ⟨bk,ok',none⟩) n ck):=HM2.out.hd.cell 0
   have hdr:=hold8 (W0:=W2) ⟨Below.refl _ W2,z0,z1,z2,z3,z4,z5,y0,kk⟩ ((Below.refl _ W2).drew)
   have hlp:=len_playedL f (fr:Int)
   have HTA:=hid (fun (W':World) (hb:Below W2.heap.size W2 W')=>taken_any nm fr toI sh on th ⟨p6,p7⟩ g (playedL f (fr:Int)) (by omega) W' (hgr.later hb) hgc)
   have HTL:=hid (show (takes on (playedL f (fr:Int))).length≤128∧∀ x∈takes on (playedL f (fr:Int)),0≤x∧x<128 from ⟨by
     unfold takes
     split
     ·rw [List.length_take];omega
     ·split
      ·rw [List.length_drop];omega
      ·exact hlp,fun x hx=>by
     have hx2:x∈playedL f (fr:Int):=by
      unfold takes at hx
      split at hx
      ·exact List.mem_of_mem_take hx
      ·split at hx
       ·exact List.mem_of_mem_drop hx
       ·exact hx
     exact ⟨(mem_playedL.1 hx2).1,(mem_playedL.1 hx2).2.1⟩⟩)
   obtain ⟨T,hT⟩:∃ T,takes on (playedL f (fr:Int))=T:=⟨_,rfl⟩
   rw [hT] at HTA HTL HRC
   have hTl:=HTL.out.1
   clear hT hgr hgc hblk p6 p7 hlp
   go_wp2_with fail
   go_region_held3 (fun w'=>Below W2.heap.size W2 w'∧w'.cell? ⟨P,0,none⟩=some (.string nm)∧w'.cell? ⟨P,1,none⟩=some (.int .i64 fr)∧w'.cell? ⟨P,2,none⟩=some (.int .i64 toI)∧w'.cell? ⟨P,3,none⟩=some (.int .i64 sh)∧w'.cell? ⟨P,4,none⟩=some (.int .i64 on)∧w'.cell? ⟨P,5,none⟩=some (.bool th)∧w'.cell? ⟨A.b1,0,none⟩=some (.slice (some ⟨bk,ok',none⟩) n ck)∧w'.cell? ⟨bk,ok'+fr,none⟩=some g) (first | exact hdr | assumption) (first | (go_at_call 196;(with_reducible refine (HTA.out _ hdr.1).mono ?_);rintro e w3 ⟨v',rfl,hTR,hb3⟩;obtain ⟨aT,cT,rfl⟩:=hTR.intForm;have hn:=hold8 hdr hb3))
   have HM3:=hid (HM2.out.low hn.1)
   have HG3:=hid ((hG.out.low HB2.out).low hn.1)
   have HP3:=hid (HP2.out.below hn.1)
   have HTR:=hid hTR
   have HR3:Hid (w3.ownsRow w3.heap.size 251 2 (.slice none 0 0) 0 (gpCs ((T.take 0).map fun x=>((fr:Int),x)))):=hid (World.ownsRow_nil _ _ _ _)
   have HB3:=hid (Below.refl w3.heap.size w3)
   clear hdr hn hb3 hTR HM2 HB2 HP2 HTA z0 z1 z2 z3 z4 z5 y0 kk hM hG
   go_wp2
   go_loopw [14,85] (fun v x wr=>∃ j:Nat,j≤T.length∧x = .int .i64 j∧Hid (wr.ownsRow w3.heap.size 251 2 v j (gpCs ((T.take j).map fun x=>((fr:Int),x))))∧Hid (Below w3.heap.size w3 wr)) (fun _ x _=>T.length-(intOf x).toNat)
   case atStart=>exact ⟨0,Nat.zero_le _,rfl,HR3,HB3⟩
   clear HR3 HB3
   obtain ⟨j,hj,rfl,hR,hB⟩:=hrel
   by_cases hjl:j<T.length
   ·have hj2:(j:Int)<(T.length:Int):=by omega
    obtain ⟨b6,o6,c6,ev,hbl,k1⟩:=(HTR.out.later hB.out).intAt j hjl
    cases ev
    have HTN:=hid (show gpCs ((T.take (j+1)).map fun x=>((fr:Int),x))=gpCs ((T.take j).map fun x=>((fr:Int),x))++[.int .i64 fr,.int .i64 T[j]] by rw [List.take_succ_eq_append_getElem hjl,List.map_append,List.map_singleton,gpCs_snoc])
    obtain ⟨x,hx⟩:∃ x,T[j]=x:=⟨_,rfl⟩
    rw [hx] at k1 HTN
    have z1:wr.cell? ⟨P,1,none⟩=some (.int .i64 fr):=(HP3.out.below hB.out).cell 1
    have hsz:=hB.out.size
    clear hx hbl
    go_wp2_with (at_builtin;refine wpList_append_lies _ rfl _ _ 254 rfl w3.heap.size 251 i0 _ 2 16 Tryz.underlying254 hi0 hz0 hz1 hz2 rfl (by omega) _ _ _ rfl (hR.out.alloc _) ⟨wr.heap.size,0,none⟩ 1 1 [.int .i64 fr,.int .i64 x] rfl rfl (World.news_of_block (cs:=#[.int .i64 fr,.int .i64 x]) (t:=251) (fr:=(0,0)) (heap_alloc_new wr _)) (by simp [Value.oneCell']) (by omega) (by unfold maxLen;omega) (by omega) (by simp;omega) (wr.heap.size+1) (by simp) ?_;intro gg cap w5 hown5 hgrow5 hat5 hlt5)
    have HRN:=hid hown5
    rw [← HTN.out] at HRN
    have HBN:=hid (push_low hB.out hR.out hgrow5)
    clear hown5 hgrow5 hat5 hlt5 hR hB z1 k1
    go_wp2
    go_roundw
    case rel=>exact ⟨j+1,by omega,by go_num,HRN,HBN⟩
    case measure=>simp [intOf];omega
   ·have hj2:¬ (j:Int)<(T.length:Int):=by omega
    have hje:j=T.length:=by omega
    have HRT:=hid hR.out
    rw [hje,List.take_length] at HRT
    obtain ⟨l,hl⟩:∃ l,T.map (fun x=>((fr:Int),x))=l:=⟨_,rfl⟩
    have hll:l.length=T.length:=by rw [← hl,List.length_map]
    have hlx:∀ x∈l,0≤x.2∧x.2<128:=fun x hx=>by
     rw [← hl] at hx
     obtain ⟨y,hy,rfl⟩:=List.mem_map.1 hx
     exact HTL.out.2 y hy
    have HL:=hid (HRC.out l hl.symm)
    rw [hl,← hll] at HRT
    have HM4:=hid (HM3.out.low hB.out)
    have HG4:=hid (HG3.out.low hB.out)
    have HNA:=hid (HAP.out.nodup)
    have HNB:=hid (HAP.out.ok)
    have HONE:=hid (rchM_one hi l m)
    have HKEY:=hid (rchM_key (S:=S) (i:=i) l (m,[]) (fun _ h=>by cases h))
    have HLN:=hid (show ∀ o':List Pl,(rchM S i l (m,[])).2=o'→o'.length≤768 from fun o' e=>by
     rw [← e]
     have h1:=rchM_ok S i l (m,[]) HNA.out HNB.out
     exact Nat.le_trans (rchM_len S i l (m,[]) (Nat.zero_le _)) (keys_len HC.out h1.1 h1.2))
    clear hl hR hB HM3 HG3 hje
    go_wp2_with fail
    refine (HRE.out i hi l (by omega) hlx _ m HNA.out HNB.out _ HM4.out _ HRT.out).mono ?_
    rintro e w6 ⟨u,rfl,hM6,hR6,hT6⟩
    obtain ⟨q,rfl,hq1,hq2⟩:=own_slice hR6
    obtain ⟨⟨m',o'⟩,hmo⟩:∃ s,rchM S i l (m,[])=s:=⟨_,rfl⟩
    have hol:=HLN.out o' (by rw [hmo])
    have HRA:=HL
    have HON1:=HONE
    have HKE1:=HKEY
    rw [hmo] at hM6 hR6 HRA HON1 HKE1 hq1
    simp only at hM6 hR6 HRA HON1 HKE1 hq1
    have HG6:=hid (HG4.out.two hT6 HM4.out)
    have HM6:=hid hM6
    have hszb:=HM4.out.b.size
    have HR6:=hid (row_base hR6 hszb)
    clear hmo hM6 hR6 hT6 HG4 HM4 HRT HL HONE HKEY HLN HNA HNB HAP
    obtain ⟨qa,qn,qc⟩:=q
    have hsz:=HM6.out.b.size
    have hcl24:cl.length≤24:=HCL24.out
    simp only [encS]
    go_wp2_with (at_builtin;refine wpList_append_lies _ rfl _ _ 256 rfl w.heap.size 254 j0 _ 1 24 Tryz.underlying256 hj0 jz0 jz1 jz2 rfl (by omega) _ _ _ rfl (HG6.out.out.alloc _) ⟨w6.heap.size,0,none⟩ 1 1 [.slice qa qn qc] rfl rfl (World.news_of_block (cs:=#[.slice qa qn qc]) (t:=254) (fr:=(0,0)) (heap_alloc_new w6 _)) (by simp [Value.oneCell']) (by omega) (by unfold maxLen;omega) (by omega) (by simp;omega) (w6.heap.size+1) (by simp) ?_;intro gg cap w7 hown7 hgrow7 hat7 hlt7)
    have HG7:=hid (HG6.out.push (q:=(qa,qn,qc)) HR6.out hgrow7 hown7)
    rw [hps] at HG7
    have HM7:=hid (HM6.out.row HG6.out.out (by decide) (by decide) (by decide) (by decide) (by decide) (Nat.le_refl _) hgrow7)
    have HA7:=hid (show AgP S f (cl.take (k+1)) m' ((ps++[((qa,qn,qc),o')]).map (·.2)).flatten by rw [HTK.out,List.map_append,List.flatten_append];simpa using HRA.out)
    have HO7:=hid (show ∀ p∈ps++[(((qa,qn,qc):SlA),o')],GoP S p.2 from fun p hp=>by
     rcases List.mem_append.1 hp with hp | hp
     ·exact hO.out p hp
     ·rw [List.mem_singleton] at hp
      subst hp
      exact ⟨HON1.out,HKE1.out,hol⟩)
    clear hown7 hgrow7 hat7 hlt7 HG6 HM6 HR6 HRA hO HON1 HKE1
    go_wp2
    go_roundw
    case rel=>exact ⟨k+1,_,m',by omega,by go_num,by rw [List.length_append,hps];rfl,HM7,HG7,HA7,HO7⟩
    case measure=>simp [intOf];omega
  ·have hk2:¬ (k:Int)<(cl.length:Int):=by omega
   have hke:cl.take k=cl:=List.take_of_length_le (by omega)
   rw [hke] at hA
   have HALL:=hid (show ∀ i,i<S.cs.length→f (3,0,(i:Int))=1→(i:Int)∈cl from fun i hi hon=>by rw [← HCL.out,mem_onL];exact ⟨by omega,by omega,hon⟩)
   obtain ⟨hac,hah⟩:=hA.out.all HALL.out (fun c hc=>(cp_good HC.out hc).2.2.2.2.2.2.2.2)
   have hcl24:cl.length≤24:=HCL24.out
   have HAC:=hid hac
   have HAH:=hid hah
   have hpl:ps.length≤800:=by omega
   have hML:=keys_len HC.out hac.nodup hac.ok
   clear hke hac hah hA hps
   go_wp2
   go_loopg [11] (2 * (1000-m.length)+(if ps.length=0 then 0 else 1)+1) (fun kk v wr=>∃ (ps:List (SlA × List Pl)) (m:List Pl),2 * (1000-m.length)+(if ps.length=0 then 0 else 1)+1≤kk∧ps.length≤800∧Hid (AsM w A (.slice a1 n c1) v2 v3 (.slice a4 S.cs.length c4) (.slice ak n ck) vs (.slice ac cl.length cc) n m wr)∧Hid (GpI wr w.heap.size v ps)∧Hid (AcI S f m (ps.map (·.2)).flatten)∧Hid (AcH S f m)∧Hid (∀ p∈ps,GoP S p.2))
   case atStart=>exact ⟨ps,m,Nat.le_refl _,hpl,hM,hG,HAC,HAH,hO⟩
   clear hM hG HAC HAH hO hML hpl
   obtain ⟨ps,m,hkk,hpl,hM,hG,hA,hH,hO⟩:=hrel
   obtain ⟨⟨ga,gn,gc⟩,ev,hgn,_⟩:=own_slice hG.out.out
   simp only at hgn
   subst hgn
   simp only [encS] at ev
   subst ev
   by_cases hz:ps.length=0
   ·have hnil:ps=[]:=List.length_eq_zero_iff.1 hz
    have d0:decide ((0:Int)<(ps.length:Int))=false:=decide_eq_false (by omega)
    have HE:=hid (fun x=>act_all (by have:=hA.out;rw [hnil] at this;exact this) hH.out x)
    have pa0:wr.cell? ⟨A.pa,0,none⟩=some (.pointer (some ⟨A.ab,0,none⟩)):=hM.out.pa.cell 0
    clear hnil hA hH hO hkk hpl
    go_wp2
    go_ret
    exact ⟨A,m,rfl,HE.out,hM.out.b,hM.out.lk,by rw [HN.out];exact hM.out.ks,by rw [HN.out];exact hM.out.ab⟩
   ·have d0:decide ((0:Int)<(ps.length:Int))=true:=decide_eq_true (by omega)
    rw [if_neg hz] at hkk
    have hml:=keys_len HC.out hA.out.nodup hA.out.ok
    have HWS:=hid hM.out.b.size
    have HGW:=hid (fun (W':World) (h2:Two A wr W')=>hG.out.two h2 hM.out)
    have HT0:=hid (Two.refl A wr)
    have HG0:=hid (GpI.nil wr wr.heap.size)
    have HA0:Hid (AcI S f m (((ps.drop 0).map (·.2)).flatten++(([]:List (SlA × List Pl)).map (·.2)).flatten)):=hid (by have:=hA.out;simpa using this)
    have HO0:Hid (∀ p∈([]:List (SlA × List Pl)),GoP S p.2):=hid (fun p h=>by cases h)
    clear hA hG
    go_wp2
    rename World=>W5
    go_loopw [18,110] (fun v x wr=>∃ (j:Nat) (qs:List (SlA × List Pl)) (m2:List Pl),j≤ps.length∧x = .int .i64 j∧qs.length≤j * 24∧m2.length=m.length+(qs.map (·.2)).flatten.length∧Hid (AsM w A (.slice a1 n c1) v2 v3 (.slice a4 S.cs.length c4) (.slice ak n ck) vs (.slice ac cl.length cc) n m2 wr)∧Hid (GpI wr W5.heap.size v qs)∧Hid (Two A W5 wr)∧Hid (AcI S f m2 (((ps.drop j).map (·.2)).flatten++(qs.map (·.2)).flatten))∧Hid (AcH S f m2)∧Hid (∀ p∈qs,GoP S p.2)) (fun _ x _=>ps.length-(intOf x).toNat)
    case atStart=>exact ⟨0,[],m,Nat.zero_le _,rfl,Nat.zero_le _,rfl,hM,HG0,HT0,HA0,hH,HO0⟩
    clear HG0 HT0 HA0 HO0 hH hM
    obtain ⟨j,qs,m2,hj,rfl,hql,hmq,hM,hG,hT,hA,hH,hQ⟩:=hrel
    by_cases hjl:j<ps.length
    ·have hj2:(j:Int)<(ps.length:Int):=by omega
     obtain ⟨bg,og,cg,ev,_,kg⟩:=(HGW.out _ hT.out).at' hjl
     cases ev
     have hin:=(HGW.out _ hT.out).ins _ (List.getElem_mem hjl)
     have hgo:=hO.out _ (List.getElem_mem hjl)
     have HDF:=hid (drop_flat (fun p:SlA × List Pl=>p.2) hjl)
     obtain ⟨⟨⟨la,ln,lc⟩,l⟩,hp⟩:∃ p,ps[j]=p:=⟨_,rfl⟩
     rw [hp] at kg hin hgo HDF
     simp only at kg hin hgo HDF
     simp only [encS] at kg hin
     have hln:ln=l.length:=by
      rcases hin.2 with ⟨e,h0⟩ | ⟨g,cap,cur,e,_⟩
      ·cases e;omega
      ·cases e;rfl
     subst hln
     have HT6:=hid hin
     have HGO:=hid hgo
     obtain ⟨rest,hrest⟩:∃ r,((ps.drop (j+1)).map (fun p:SlA × List Pl=>p.2)).flatten=r:=⟨_,rfl⟩
     rw [hrest] at HDF
     have HRS:=hid hrest
     have HAT:=hid (AgT.start (l:=l) (pd:=rest++(qs.map (·.2)).flatten) (by have:=hA.out;rw [HDF.out,List.append_assoc] at this;exact this))
     have HA0:Hid (AgT S f l (cl.take 0) m2 (rest++(qs.map (·.2)).flatten)):=HAT
     have hc2:wr.cell? ⟨A.b1,2,none⟩=some (.slice ac cl.length cc):=hM.out.hd.cell 2
     have HT5:=hid hT.out
     clear hp hgo hrest hA HDF HAT hin
     go_wp2
     clear kg hc2
     go_loopw [18,117] (fun v x wr=>∃ (k:Nat) (qs:List (SlA × List Pl)) (m2:List Pl),k≤cl.length∧x = .int .i64 k∧qs.length≤j * 24+k∧m2.length=m.length+(qs.map (·.2)).flatten.length∧Hid (AsM w A (.slice a1 n c1) v2 v3 (.slice a4 S.cs.length c4) (.slice ak n ck) vs (.slice ac cl.length cc) n m2 wr)∧Hid (GpI wr W5.heap.size v qs)∧Hid (Two A W5 wr)∧Hid (wr.ownsRow w.heap.size 251 2 (.slice la l.length lc) l.length (gpCs l))∧Hid (AgT S f l (cl.take k) m2 (rest++(qs.map (·.2)).flatten))∧Hid (AcH S f m2)∧Hid (∀ p∈qs,GoP S p.2)) (fun _ x _=>cl.length-(intOf x).toNat)
     case atStart=>exact ⟨0,qs,m2,Nat.zero_le _,rfl,by omega,hmq,hM,hG,hT,HT6,HA0,hH,hQ⟩
     clear hM hG hT HT6 HA0 hH hQ hmq hql HT5
     obtain ⟨k,qs,m2,hk,rfl,hql,hmq,hM,hG,hT,hT6,hA,hH,hQ⟩:=hrel
     by_cases hkl:k<cl.length
     ·have hk2:(k:Int)<(cl.length:Int):=by omega
      obtain ⟨b5,o5,c5,ev,hbl5,k5⟩:=(HCO.out wr hM.out.b).intAt k hkl
      cases ev
      obtain ⟨i,hi,hin,hon⟩:=HON.out _ (List.getElem_mem hkl)
      have HTK:=hid (show cl.take (k+1)=cl.take k++[(i:Int)] by rw [List.take_succ_eq_append_getElem hkl,hin])
      rw [hin] at k5
      obtain ⟨b,o,c',ev,hbl,r0,r1,r2,r3,r4,r5⟩:=HSP.out.cAt i hi
      cases ev
      have HTB:=hid (show ∀ x:Pl,thrB S f x i=(S.cs[i].thr&&decide (S.cs[i].frm=x.1)) from fun x=>by
       unfold thrB
       rw [List.getElem?_eq_getElem hi]
       simp only
       rw [decide_eq_true hon,Bool.true_and])
      have HAS:=hid (fun (hn:∀ x∈l,thrB S f x i=false)=>hA.out.skip (i:=i) hn)
      have HAR:=hid (fun (hb:∀ x∈l,thrB S f x i=true)=>hA.out.reach hi hb)
      rw [← HTK.out] at HAS HAR
      obtain ⟨nm,hnm⟩:∃ x,S.cs[i].name=x:=⟨_,rfl⟩
      obtain ⟨frI,hfr⟩:∃ x,S.cs[i].frm=x:=⟨_,rfl⟩
      obtain ⟨toI,hto⟩:∃ x,S.cs[i].to=x:=⟨_,rfl⟩
      obtain ⟨sh,hsh⟩:∃ x,S.cs[i].shift=x:=⟨_,rfl⟩
      obtain ⟨on,hon2⟩:∃ x,S.cs[i].only=x:=⟨_,rfl⟩
      obtain ⟨th,hth⟩:∃ x,S.cs[i].thr=x:=⟨_,rfl⟩
      rw [hnm] at r0
      rw [hfr] at r1 HTB
      rw [hto] at r2
      rw [hsh] at r3
      rw [hon2] at r4
      rw [hth] at r5 HTB
      replace r0:=(hM.out.b.cell hbl).trans r0
      replace r1:=(hM.out.b.cell hbl).trans r1
      replace r2:=(hM.out.b.cell hbl).trans r2
      replace r3:=(hM.out.b.cell hbl).trans r3
      replace r4:=(hM.out.b.cell hbl).trans r4
      replace r5:=(hM.out.b.cell hbl).trans r5
      have hi2:(i:Int)<(S.cs.length:Int):=by omega
      have hcs3:wr.cell? ⟨A.b0,3,none⟩=some (.slice (some ⟨b,o,none⟩) S.cs.length c4):=hM.out.sp.cell 3
      have HAP:=hid (show m2.Nodup∧∀ x∈m2,keyOk S x=true from ⟨hA.out.nodup,hA.out.ok⟩)
      clear hnm hfr hto hsh hon2 hth hin hA
      go_upto_region 35 with fail
      have hb2:Below wr.heap.size wr (wr.alloc (.cells #[.string nm,.int .i64 frI,.int .i64 toI,.int .i64 sh,.int .i64 on,.bool th] 145)):=(Below.refl _ wr).alloc (Nat.le_refl _) _
      have HM2:=hid (hM.out.low hb2)
      have HG2:=hid (hG.out.low hb2)
      have HT2:=hid (hT.out.trans (Two.low hb2))
      have HT62:=hid (row_later hT6.out hb2)
      have HP2:=hid (Blk.new wr 145 #[.string nm,.int .i64 frI,.int .i64 toI,.int .i64 sh,.int .i64 on,.bool th])
      obtain ⟨P,hP⟩:∃ P,wr.heap.size=P:=⟨_,rfl⟩
      rw [hP] at HP2 ⊢
      generalize wr.alloc (.cells #[.string nm,.int .i64 frI,.int .i64 toI,.int .i64 sh,.int .i64 on,.bool th] 145)=W7 at *
      have z1:W7.cell? ⟨P,1,none⟩=some (.int .i64 frI):=HP2.out.cell 1
      have z5:W7.cell? ⟨P,5,none⟩=some (.bool th):=HP2.out.cell 5
      have HSKIP:=hid (fun (hn:∀ x∈l,thrB S f x i=false) (nq:Nat)=>show Hid (AsM w A (.slice a1 n c1) v2 v3 (.slice (some ⟨b,o,none⟩) S.cs.length c4) (.slice ak n ck) vs (.slice (some ⟨b5,o5,none⟩) cl.length cc) n m2 (W7.drewN nq))∧Hid (GpI (W7.drewN nq) W5.heap.size u18 qs)∧Hid (Two A W5 (W7.drewN nq))∧Hid ((W7.drewN nq).ownsRow w.heap.size 251 2 (.slice la l.length lc) l.length (gpCs l))∧Hid (AgT S f l (cl.take (k+1)) m2 (rest++(qs.map (·.2)).flatten)) from
       ⟨hid (HM2.out.low (below_drewN (Below.refl _ _) nq)),hid (HG2.out.low (below_drewN (Below.refl _ _) nq)),hid (HT2.out.trans (Two.low (below_drewN (Below.refl _ _) nq))),hid (row_later HT62.out (below_drewN (Below.refl _ _) nq)),hid (HAS.out hn)⟩)
      clear r0 r1 r2 r3 r4 r5 hcs3 hb2 hP k5 hbl hbl5 hM hG hT hT6 HP2 HAS
      by_cases hl0:l.length=0
      ·have d1:decide ((0:Int)<(l.length:Int))=false:=decide_eq_false (by omega)
       have d2:decide (0<l.length)=false:=decide_eq_false (by omega)
       have HNB:=hid (show ∀ x∈l,thrB S f x i=false from fun x hx=>by rw [List.length_eq_zero_iff.1 hl0] at hx;cases hx)
       clear hl0
       go_wp2_with fail
       go_quiet (fail)
       obtain ⟨HM8,HG8,HT8,HT68,HA8⟩:=HSKIP.out HNB.out nq
       clear HSKIP
       go_wp2
       go_roundw
       case rel=>exact ⟨k+1,qs,m2,by omega,by go_num,by omega,hmq,HM8,HG8,HT8,HT68,HA8,hH,hQ⟩
       case measure=>simp [intOf];omega
      have d1:decide ((0:Int)<(l.length:Int))=true:=decide_eq_true (by omega)
      have d2:decide (0<l.length)=true:=decide_eq_true (by omega)
      have d3:0<l.length:=by omega
      obtain ⟨bl,ol,cl',ev,hbll,l0,_⟩:=(ARd.of_gps HT62.out).gpAt 0 (by omega)
      cases ev
      rw [Nat.zero_mul,Nat.add_zero] at l0
      have HX0:=hid (show ∀ x∈l,x.1=l[0].1 from fun x hx=>HGO.out.1 x hx _ (List.getElem_mem _))
      obtain ⟨x0,hx0⟩:∃ x0,l[0].1=x0:=⟨_,rfl⟩
      rw [hx0] at l0 HX0
      cases th with
      | false =>
       have HNB:=hid (show ∀ x∈l,thrB S f x i=false from fun x hx=>by rw [HTB.out x];rfl)
       clear hx0 hbll
       go_wp2_with fail
       go_quiet (fail)
       obtain ⟨HM8,HG8,HT8,HT68,HA8⟩:=HSKIP.out HNB.out nq
       clear HSKIP
       go_wp2
       go_roundw
       case rel=>exact ⟨k+1,qs,m2,by omega,by go_num,by omega,hmq,HM8,HG8,HT8,HT68,HA8,hH,hQ⟩
       case measure=>simp [intOf];omega
      | true =>
       by_cases hfx:frI=x0
       ·have e1:(frI==x0)=true:=by rw [hfx];exact beq_self_eq_true _
        have HNB:=hid (HAR.out (fun x hx=>by rw [HTB.out x,HX0.out x hx,hfx,decide_eq_true rfl];rfl))
        clear hx0 hbll hfx
        go_wp2_with fail
        go_quiet (fail)
        have hbq:=below_drewN (Below.refl W7.heap.size W7) nq
        have HM8:=hid (HM2.out.low hbq)
        have HG8:=hid (HG2.out.low hbq)
        have HT8:=hid (HT2.out.trans (Two.low hbq))
        have HL8:=hid (row_later HT62.out hbq)
        have hll:=HGO.out.2.2
        have hlx:∀ x∈l,0≤x.2∧x.2<128:=fun x hx=>by
         have:=keyOk_lt (spGood HC.out).ds (spGood HC.out).d (HGO.out.2.1 x hx)
         omega
        have HONE:=hid (rchM_one hi l m2)
        have HKEY:=hid (rchM_key (S:=S) (i:=i) l (m2,[]) (fun _ h=>by cases h))
        have HLN:=hid (show ∀ o':List Pl,(rchM S i l (m2,[])).2=o'→o'.length≤768 from fun o' e=>by
         rw [← e]
         have h1:=rchM_ok S i l (m2,[]) HAP.out.1 HAP.out.2
         exact Nat.le_trans (rchM_len S i l (m2,[]) (Nat.zero_le _)) (keys_len HC.out h1.1 h1.2))
        have HLM:=hid (rchM_zero S i l m2)
        have HHM:=hid (hH.out.mono (fun x hx=>rchM_sub S i l (m2,[]) x hx))
        clear hbq HM2 HG2 HT2 HT62 HSKIP z1 z5 l0
        generalize W7.drewN nq=W8 at *
        go_wp2_with fail
        refine (HRE.out i hi l (by omega) hlx _ m2 HAP.out.1 HAP.out.2 _ HM8.out _ HL8.out).mono ?_
        rintro e w6 ⟨u,rfl,hM6,hR6,hT6⟩
        obtain ⟨q,rfl,hq1,hq2⟩:=own_slice hR6
        obtain ⟨⟨m',o'⟩,hmo⟩:∃ s,rchM S i l (m2,[])=s:=⟨_,rfl⟩
        have hol:=HLN.out o' (by rw [hmo])
        have HRA:=HNB
        have HON1:=HONE
        have HKE1:=HKEY
        have HLM1:=HLM
        have HHM1:=HHM
        rw [hmo] at hM6 hR6 HRA HON1 HKE1 hq1 HLM1 HHM1
        simp only at hM6 hR6 HRA HON1 HKE1 hq1 HLM1 HHM1
        have HG6:=hid (HG8.out.two hT6 HM8.out)
        have HT6:=hid (HT8.out.trans hT6)
        have HL6:=hid (hT6.owns HL8.out (by decide) HM8.out)
        have HM6:=hid hM6
        have hszb:=HT8.out.1
        have HR6:=hid (row_base hR6 hszb)
        have hszw:=HM8.out.b.size
        have hsz:=HT6.out.1
        have HW5:=hid (show w.heap.size≤W5.heap.size from HWS.out)
        clear hmo hM6 hR6 hT6 HG8 HT8 HL8 HM8 HONE HKEY HLN HLM HHM HNB HAP HAR
        obtain ⟨qa,qn,qc⟩:=q
        have hcl24:cl.length≤24:=HCL24.out
        simp only [encS]
        go_wp2_with (at_builtin;refine wpList_append_lies _ rfl _ _ 256 rfl W5.heap.size 254 j0 _ 1 24 Tryz.underlying256 hj0 jz0 jz1 jz2 rfl (by omega) _ _ _ rfl (HG6.out.out.alloc _) ⟨w6.heap.size,0,none⟩ 1 1 [.slice qa qn qc] rfl rfl (World.news_of_block (cs:=#[.slice qa qn qc]) (t:=254) (fr:=(0,0)) (heap_alloc_new w6 _)) (by simp [Value.oneCell']) (by omega) (by unfold maxLen;omega) (by omega) (by simp;omega) (w6.heap.size+1) (by simp) ?_;intro gg cap w7 hown7 hgrow7 hat7 hlt7)
        have HG7:=hid (HG6.out.push (q:=(qa,qn,qc)) HR6.out hgrow7 hown7)
        have HM7:=hid (HM6.out.row HG6.out.out (by decide) (by decide) (by decide) (by decide) (by decide) HW5.out hgrow7)
        have HT7:=hid (HT6.out.row HG6.out.out hgrow7)
        have HL7:=hid (owns_rowed HL6.out HG6.out.out (by decide) hgrow7)
        have HA7:=hid (show AgT S f l (cl.take (k+1)) m' (rest++((qs++[((qa,qn,qc),o')]).map (·.2)).flatten) by rw [List.map_append,List.flatten_append];simpa using HRA.out)
        have HO7:=hid (show ∀ p∈qs++[(((qa,qn,qc):SlA),o')],GoP S p.2 from fun p hp=>by
         rcases List.mem_append.1 hp with hp | hp
         ·exact hQ.out p hp
         ·rw [List.mem_singleton] at hp
          subst hp
          exact ⟨HON1.out,HKE1.out,hol⟩)
        have HMQ:=hid (show m'.length=m.length+((qs++[((qa,qn,qc),o')]).map (·.2)).flatten.length by rw [List.map_append,List.flatten_append,List.length_append,HLM1.out,hmq];simp;omega)
        clear hown7 hgrow7 hat7 hlt7 HG6 HM6 HR6 HRA hQ HON1 HKE1 HT6 HL6 hmq hH HLM1
        go_wp2
        go_roundw
        case rel=>exact ⟨k+1,_,m',by omega,by go_num,by rw [List.length_append,List.length_singleton];omega,HMQ.out,HM7,HG7,HT7,HL7,HA7,HHM1,HO7⟩
        case measure=>simp [intOf];omega
       ·have e1:(frI==x0)=false:=by rw [beq_eq_false_iff_ne];exact hfx
        have HNB:=hid (show ∀ x∈l,thrB S f x i=false from fun x hx=>by rw [HTB.out x,HX0.out x hx,decide_eq_false hfx];rfl)
        clear hx0 hbll hfx
        go_wp2_with fail
        go_quiet (fail)
        obtain ⟨HM8,HG8,HT8,HT68,HA8⟩:=HSKIP.out HNB.out nq
        clear HSKIP
        go_wp2
        go_roundw
        case rel=>exact ⟨k+1,qs,m2,by omega,by go_num,by omega,hmq,HM8,HG8,HT8,HT68,HA8,hH,hQ⟩
        case measure=>simp [intOf];omega
     ·have hk2:¬ (k:Int)<(cl.length:Int):=by omega
      have hke:cl.take k=cl:=List.take_of_length_le (by omega)
      have HE:=hid (AgT.end hA.out (fun i hi hon=>by rw [hke];exact HALL.out i hi hon))
      rw [← HRS.out] at HE
      clear hke hA
      go_wp2
      go_roundw
      case rel=>exact ⟨j+1,qs,m2,by omega,by go_num,by omega,hmq,hM,hG,hT,HE,hH,hQ⟩
      case measure=>simp [intOf];omega
    ·have hj2:¬ (j:Int)<(ps.length:Int):=by omega
     have hje:ps.drop j=[]:=List.drop_eq_nil_of_le (by omega)
     have HAQ:=hid (show AcI S f m2 (qs.map (·.2)).flatten by have:=hA.out;rw [hje] at this;simpa using this)
     have HEM:=hid (show ∀ p∈qs,(p.1.2.1==0)=true→p.2=[] from fun p hp h0=>by
      obtain ⟨q,e1,e2,_⟩:=own_slice (hG.out.ins p hp)
      have e3:p.1=q:=by
       obtain ⟨⟨a,b,c⟩,l⟩:=p
       obtain ⟨a',b',c'⟩:=q
       simp only [encS] at e1
       cases e1
       rfl
      rw [e3] at h0
      rw [e2] at h0
      exact List.length_eq_zero_iff.1 (by simpa using h0))
     have HFL:=hid (groups_all (fun p:SlA × List Pl=>p.2) (fun p=>p.1.2.1==0) qs HEM.out)
     have HFW:=hid (show (qs.filter fun p=>!(p.1.2.1==0)).length≤(qs.map (·.2)).flatten.length from by
      rw [← HFL.out]
      refine groups_few (fun p:SlA × List Pl=>p.2) _ fun p hp e=>?_
      obtain ⟨h1,h2⟩:=List.mem_filter.1 hp
      obtain ⟨q,e1,e2,_⟩:=own_slice (hG.out.ins p h1)
      have e3:p.1=q:=by
       obtain ⟨⟨a,b,c⟩,l⟩:=p
       obtain ⟨a',b',c'⟩:=q
       simp only [encS] at e1
       cases e1
       rfl
      rw [e3,e2,e] at h2
      simp at h2)
     have hm2:=keys_len HC.out HAQ.out.nodup HAQ.out.ok
     have hqb:qs.length≤1000000:=by omega
     clear hje hA
     go_wp2_with fail
     refine (delPlaces_any qs hqb _ _ _ hG.out).mono ?_
     rintro e w8 ⟨v',rfl,hG8,hg8⟩
     have HM8:=hid (hM.out.wrote hG.out.out (by decide) (by decide) (by decide) (by decide) (by decide) HWS.out hg8)
     have HG8:=hid (hG8.base HWS.out)
     have HQ8:=hid (show ∀ p∈qs.filter (fun p=>!(p.1.2.1==0)),GoP S p.2 from fun p hp=>hQ.out p (List.mem_filter.1 hp).1)
     have HA8:=hid (show AcI S f m2 ((qs.filter fun p=>!(p.1.2.1==0)).map (·.2)).flatten by rw [HFL.out];exact HAQ.out)
     have hfw:=HFW.out
     obtain ⟨qs2,hqs2⟩:∃ qs2,(qs.filter fun p=>!(p.1.2.1==0))=qs2:=⟨_,rfl⟩
     rw [hqs2] at HG8 HQ8 HA8 hfw
     clear hG8 hg8 hG hM hQ HFL HFW HAQ HEM hqs2
     go_wp2
     go_roundg (2 * (1000-m2.length)+(if qs2.length=0 then 0 else 1)+1)
     case rel=>exact ⟨qs2,m2,Nat.le_refl _,by omega,HM8,HG8,HA8,hH,HQ8⟩
     case measure =>
      split
      ·omega
      ·omega
end Go.Proofs.YteflhbfgpknabaaGreatDoor
