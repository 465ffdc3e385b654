/-
  A part of the proof: TT, L28.
-/
import Derived.Test.YthhfmppealmblaaGreatDoorK26
import Derived.Test.YthhfmppealmblaaGreatDoorK22
import Derived.Test.YthhfmppealmblaaGreatDoorK23
import Derived.Test.YthhfmppealmblaaGreatDoorK24
import Derived.Test.YthhfmppealmblaaGreatDoorK25
namespace Go.Proofs.YthhfmppealmblaaGreatDoor
open Go.RowKit Go.Shelf
attribute [local go_sem] Oper.semAt_some
theorem nodup_lenI {l m:List Int} (h:l.Nodup) (hs:∀ x∈l,x∈m):l.length≤m.length:=by
 induction l generalizing m with
 | nil=>exact Nat.zero_le _
 | cons a l ih =>
  rw [List.nodup_cons] at h
  have ha:=hs a (by simp)
  have h2:=ih h.2 (m:=m.erase a) (fun x hx=>(List.mem_erase_of_ne (fun e=>h.1 (by rw [← e];exact hx))).2 (hs x (by simp [hx])))
  rw [List.length_erase_of_mem ha] at h2
  have:0<m.length:=List.length_pos_of_mem ha
  rw [List.length_cons]
  omega
theorem idM_len {B:(Th→Int)→Pp→Bool} {l:List Ev} {k:Int} {n:Nat} {ms:List Nat} {j i:Nat} {Dm Df:List Int} (h:IdM B l k n ms j i Dm Df) (hn:Dm.Nodup):Dm.length≤n:=by
 have h1:=nodup_lenI (m:=(List.range n).map fun (x:Nat)=>(x:Int)) hn (fun x hx=>by
  obtain ⟨m,rfl,h2,_⟩:=(h.1 x).1 hx
  exact List.mem_map.2 ⟨m,List.mem_range.2 h2,rfl⟩)
 rwa [List.length_map,List.length_range] at h1
theorem try0_any (v1 v2 v3 v4:Value) (S:Sp) (hc:(checkP S).2=0) (fp:Nat→Value) (PB:Nat) (B:(Th→Int)→Pp→Bool) (hB:SndIs S B) (l:List Ev) (ms:List Nat) (j i:Nat) (hi:i<S.ss.length) (f:Th→Int) (hfe:onV (l.take (j+1))=f) (hf:OnOk S f) (tk:Int) (PL XB NB nm Z:Nat) (now:List Pp) (hnow:∀ p,p∈now ↔ Snd S f p) (cs:Array Value) (hnz:Z+5<nm) (A0 F0 A1 F1:List Int) (hId:IdM B l 2 S.ss.length ms j i A0 F0) (w0 W0 W:World) (hon:OnI f cs) (hsp:SpRd w0 v1 v2 v3 v4 fp S) (hpb:Blk w0 PB 27 #[v1,v2,v3,v4]) (hz:w0.heap.size≤Z) (hz3:w0.heap.size≤PL) (hW:IdW w0 W0 Z PL XB NB nm now (plC PB cs tk) A0 F0 A1 F1 W) :
  Calls Tryz.prog 64 #[.int .i64 0,.int .i64 i,.pointer (some ⟨PL,769+i,none⟩),.pointer (some ⟨Z+5,0,none⟩),.pointer (some ⟨Z+2,0,none⟩),.pointer (some ⟨NB,0,none⟩),.pointer (some ⟨XB,0,none⟩)] W (TryE B l 2 S.ss.length ms j i (Z+3) Z W):=by
 have hss:=(spGood hc).ss
 have h:=try_any v1 v2 v3 v4 S hc fp PB B hB l 0 S.ss.length (by omega) ms j i hi f hfe hf tk PL (768+i) (onIx_stop (by omega)) now hnow (Z+5) (Z+2) NB XB nm (Z+3) Z _ _ cs rfl rfl (by omega) (by omega) (by omega) A0 F0 hId w0 W hon hsp hpb (by omega) hz hz3 hW.t0
 rw [show 1+(768+i)=769+i by omega] at h
 exact h
theorem try1_any (v1 v2 v3 v4:Value) (S:Sp) (hc:(checkP S).2=0) (fp:Nat→Value) (PB:Nat) (B:(Th→Int)→Pp→Bool) (hB:SndIs S B) (l:List Ev) (ms:List Nat) (j i:Nat) (hi:i<S.cs.length) (f:Th→Int) (hfe:onV (l.take (j+1))=f) (hf:OnOk S f) (tk:Int) (PL XB NB nm Z:Nat) (now:List Pp) (hnow:∀ p,p∈now ↔ Snd S f p) (cs:Array Value) (hnz:Z+5<nm) (A0 F0 A1 F1:List Int) (hId:IdM B l 3 S.cs.length ms j i A1 F1) (w0 W0 W:World) (hon:OnI f cs) (hsp:SpRd w0 v1 v2 v3 v4 fp S) (hpb:Blk w0 PB 27 #[v1,v2,v3,v4]) (hz:w0.heap.size≤Z) (hz3:w0.heap.size≤PL) (hW:IdW w0 W0 Z PL XB NB nm now (plC PB cs tk) A0 F0 A1 F1 W) :
  Calls Tryz.prog 64 #[.int .i64 1,.int .i64 i,.pointer (some ⟨PL,849+i,none⟩),.pointer (some ⟨Z+5,0,none⟩),.pointer (some ⟨Z+2,0,none⟩),.pointer (some ⟨NB,0,none⟩),.pointer (some ⟨XB,0,none⟩)] W (TryE B l 3 S.cs.length ms j i (Z+4) (Z+1) W):=by
 have hcs:=(spGood hc).cs
 have h:=try_any v1 v2 v3 v4 S hc fp PB B hB l 1 S.cs.length (by omega) ms j i hi f hfe hf tk PL (848+i) (onIx_coupler (by omega)) now hnow (Z+5) (Z+2) NB XB nm (Z+4) (Z+1) _ _ cs rfl rfl (by omega) (by omega) (by omega) A1 F1 hId w0 W hon hsp hpb (by omega) (by omega) hz3 hW.t1
 rw [show 1+(848+i)=849+i by omega] at h
 exact h
set_option maxRecDepth 100000 in
set_option maxHeartbeats 12800000 in
theorem aidle_in (n:Nat) (hn:6≤n) (v1 v2 v3 v4:Value) (S:Sp) (ok:SpOk S) (fp:Nat→Value) (l:List Ev) (vl:Value) (B:(Th→Int)→Pp→Bool) (hB:SndIs S B) (w:World) (t:Tabs w) (hsp:SpRd w v1 v2 v3 v4 fp S) (hlv:ARd w vl 5 (l.map evC)) (hE:audE S l=0) :
  CallsIn Fence.wide n Tryz.prog 33 #[.agg #[v1,v2,v3,v4],vl] w (IdR S B l w):=by
 obtain ⟨hc,hR⟩:=audE_parts hE
 obtain ⟨hll,hgood⟩:=(recE_iff hc).1 hR
 have hasc:Asc l:=(recE_ok hR).asc
 have hmm:=@run_makeMap Tryz.prog
 obtain ⟨al,cl,evl⟩:=hlv.evForm
 subst evl
 obtain ⟨_,_,⟨a3,c3,rfl⟩,⟨a4,c4,rfl⟩⟩:=hsp.forms
 have hsg:=spGood hc
 have hss:=hsg.ss
 have hcs:=hsg.cs
 have hal:=(Below.refl _ w).alloc (Nat.le_refl w.heap.size) (.cells #[v1,v2,.slice a3 S.ss.length c3,.slice a4 S.cs.length c4] 27)
 have hal1:Below w.heap.size w ((w.alloc (.cells #[v1,v2,.slice a3 S.ss.length c3,.slice a4 S.cs.length c4] 27)).alloc (.cells #[.slice al l.length cl] 28)):=hal.alloc (by simp) _
 have hk1:=(Blk.new w 27 #[v1,v2,.slice a3 S.ss.length c3,.slice a4 S.cs.length c4]).alloc (.cells #[.slice al l.length cl] 28)
 have hk4:=Blk.new (w.alloc (.cells #[v1,v2,.slice a3 S.ss.length c3,.slice a4 S.cs.length c4] 27)) 28 #[.slice al l.length cl]
 rw [World.size_alloc] at hk4
 have HCK:=Lib.hid (acheck_any v1 v2 _ _ S ok fp w.heap.size _ [(.slice al l.length cl,l)] _ (t.below hal1) (hsp.later hal1) hk1 (by simp) (fun x hx=>by rw [List.mem_singleton.1 hx];exact Nat.le_trans hll (by omega)) (evsR_one hk4 (hlv.later hal1)))
 rw [show ([(.slice al l.length cl,l)]:List (Value × List Ev)).map (·.2)=[l] from rfl,chkE_one,hE] at HCK
 have hba:Below (w.alloc (.cells #[v1,v2,.slice a3 S.ss.length c3,.slice a4 S.cs.length c4] 27)).heap.size (w.alloc (.cells #[v1,v2,.slice a3 S.ss.length c3,.slice a4 S.cs.length c4] 27)) ((w.alloc (.cells #[v1,v2,.slice a3 S.ss.length c3,.slice a4 S.cs.length c4] 27)).alloc (.cells #[.slice al l.length cl] 28)):=(Below.refl _ _).alloc (Nat.le_refl _) _
 have HBA:=Lib.hid hba
 have HKA:=Lib.hid (Blk.new w 27 #[v1,v2,.slice a3 S.ss.length c3,.slice a4 S.cs.length c4])
 have HSA:=Lib.hid (hsp.later hal)
 have HLA:=Lib.hid (hlv.later hal)
 have HZA:=Lib.hid (show (w.alloc (.cells #[v1,v2,.slice a3 S.ss.length c3,.slice a4 S.cs.length c4] 27)).heap.size=w.heap.size+1 from World.size_alloc ..)
 have HAW:=Lib.hid hal
 have HG:=Lib.hid hgood
 have HE:=Lib.hid hE
 have HAS:=Lib.hid hasc
 clear hba hal hal1 hk1 hk4 hsp hlv hgood ok t hE hR hasc
 refine callsIn_of_wp_marks Tryz.func33 rfl trivial ?_ rfl
 simp only [Tryz.ntmps33,List.size_toArray,List.length_cons,List.length_nil,Nat.reduceAdd,Nat.reduceSub,Array.replicate_succ,Array.replicate_zero,List.push_toArray,List.append_toArray,List.nil_append,List.cons_append]
 gi_wp2_with fail
 obtain ⟨Wa,hWa⟩:∃ Wa,w.alloc (.cells #[v1,v2,.slice a3 S.ss.length c3,.slice a4 S.cs.length c4] 27)=Wa:=⟨_,rfl⟩
 rw [hWa] at HBA HKA HSA HLA HZA HAW HCK ⊢
 clear hWa
 generalize Wa.alloc (.cells #[.slice al l.length cl] 28)=W0 at *
 refine ⟨trivial,(fun _=>by omega),?_⟩
 refine (callsIn_wide.2 HCK.out).mono ?_
 rintro e W1 ⟨rfl,hb⟩
 have hba1:=below_step HBA.out hb
 have HI1:=Lib.hid (IdS.start hba1)
 have HB1:=Lib.hid (below_step hba1 (idW_below W1))
 have HZ:=Lib.hid hba1.size
 have HZW:=Lib.hid (show (idW W1).heap.size=W1.heap.size+6 by unfold idW;simp only [World.size_alloc])
 clear hb hba1 HCK HBA
 gi_upto_region 6 with fail
 rw [show (((((W1.alloc (.map #[] 0)).alloc (.map #[] 0)).alloc (.cells #[.map (some W1.heap.size),.map (some (W1.heap.size+1))] 140)).alloc (.map #[] 0)).alloc (.map #[] 0)).alloc (.cells #[.map (some (W1.heap.size+3)),.map (some (W1.heap.size+4))] 140)=idW W1 from rfl]
 obtain ⟨W2,hW2⟩:∃ W2,idW W1=W2:=⟨_,rfl⟩
 rw [hW2] at HI1 HB1 HZW ⊢
 clear hW2
 obtain ⟨Z,hZz⟩:∃ Z,W1.heap.size=Z:=⟨_,rfl⟩
 rw [hZz] at HI1 HZ HZW ⊢
 clear hZz
 rw [show Z+1+1+1+1+1=Z+5 from rfl,show Z+1+1+1+1=Z+4 from rfl,show Z+1+1+1=Z+3 from rfl,show Z+1+1=Z+2 from rfl]
 gi_wp2_with fail
 refine ⟨trivial,(fun _=>by omega),?_⟩
 refine (callsIn_wide.2 (moments_any al l.length cl w.heap.size _)).mono ?_
 rintro e W4 ⟨rfl,hbs,hbl,hb4⟩
 have HB4:=Lib.hid (below_step HB1.out hb4)
 have hsz4:=HB4.out.size
 have hZ4:Z+6≤W4.heap.size:=by have h1:=hb4.size;have h2:=HZW.out;omega
 have HI0:=Lib.hid (show IdI Wa Z B S l [] W4 from ⟨[],[],[],[],HI1.out.below hb4,fun j=>IdM.zero j,fun j=>IdM.zero j⟩)
 have HSEQ:=Lib.hid (moments_seq (n-1) (by omega) Wa v1 v2 _ _ fp S hc w.heap.size l al cl hll HG.out HSA.out HKA.out HLA.out _ _ W4 HB4.out hbs hbl)
 clear hbs hbl hb4 HI1 HB1
 gi_wp2_with fail
 refine' wpIn_range_Ta rfl (by omega) (gf:=89) (lb:=#[.pointer (some ⟨W2.heap.size,0,none⟩),.pointer (some ⟨W2.heap.size+1,0,none⟩)]) rfl trivial (enters_of Tryz.func89 (by kernel_rfl) rfl) HSEQ.out (fun h k=>h.trans k) (fun W k o o' h1 h2 h3=>KpM.put (Nat.le_trans hsz4 h1) h2 h3) (fun W o h1=>KpM.of_below ((Below.refl _ W).alloc (Nat.le_refl _) o) (Nat.le_trans hsz4 h1)) (fun _=>rfl) (IdI Wa Z B S l) (fun s A A' row hs hgr ht=>hs.turn hsz4 hgr ht) HI0.out _ (fun x => .cells #[.pointer (some ⟨x.2,0,none⟩)] 130) (fun _=>rfl) (fun pre x W k o o' h1 h2 h3 h4=>h4.put (Nat.le_trans hsz4 h1) h2 h3) (fun pre x W o h=>h.low ((Below.refl _ W).alloc (Nat.le_refl _) o)) ?assign ?body ?done
 case assign =>
  intro ly x W K hK
  obtain ⟨XB,hXB⟩:∃ XB,W.heap.size=XB:=⟨_,rfl⟩
  rw [hXB] at hK
  dsimp only [moE]
  gi_wp2
  try rw [hXB]
  exact hK
 case body =>
  intro ly pre x XB W hsX hX0 hI hP
  obtain ⟨i,PL⟩:=x
  have hil:=hP.lt
  dsimp only at hil
  obtain ⟨tk,htk⟩:∃ z,(l.getD i ev0).1=z:=⟨_,rfl⟩
  obtain ⟨f,hfe⟩:∃ f,onV (l.take (i+1))=f:=⟨_,rfl⟩
  have hpx:=hP.py.px
  dsimp only at hpx
  rw [htk,hfe] at hpx
  have hf:OnOk S f:=by rw [← hfe];exact onOk_upto hc (by omega) (fun j hj=>HG.out j (by omega))
  obtain ⟨A0,F0,A1,F1,hs,hm0,hm1⟩:=hI.ex
  obtain ⟨cs,hon,hpl⟩:=hpx.ex
  have hplz:Wa.heap.size≤PL:=hP.py.new
  have htk2:(l[i]?.getD ev0).1=tk:=by rw [← htk,List.getD_eq_getElem?_getD]
  try dsimp only
  try rw [htk2]
  have HX:=Lib.hid (show Boxed W XB 130 (.pointer (some ⟨PL,0,none⟩)) from hX0)
  have HSO:=Lib.hid (sounding_any v1 v2 _ _ S hc fp w.heap.size PL f tk hf W (HSA.out.later hs.be) (HKA.out.below hs.be) hpx)
  have HFE:=Lib.hid hfe
  have HON:=Lib.hid hon
  have HP5:=Lib.hid hpl
  have HS:=Lib.hid hs
  have HM0:=Lib.hid (hm0 i)
  have HM1:=Lib.hid (hm1 i)
  have hXZ:Z+6≤XB:=by omega
  have cX:W.cell? ⟨XB,0,none⟩=some (.pointer (some ⟨PL,0,none⟩)):=HX.out.cell
  clear htk2 htk hfe hpx hs hm0 hm1 hon hpl hI hP hX0
  gi_wp2_with fail
  refine ⟨trivial,(fun _=>by omega),?_⟩
  refine ((callsIn_wide.2 HSO.out).inRound ly).mono ?_
  rintro e W6 ⟨nm,now,rfl,hnm,hmp,hnd,hmem,hb6⟩
  have hn7:Boxed (W6.alloc (.cells #[.map (some nm)] 131)) W6.heap.size 131 (.map (some nm)):=Boxed.new W6 _ _
  have hb7:Below W6.heap.size W6 (W6.alloc (.cells #[.map (some nm)] 131)):=(Below.refl _ W6).alloc (Nat.le_refl _) _
  have hb67:=hb6.trans (hb7.mono hb6.size)
  have hnmZ:Z+5<nm:=by have:=HX.out.lt;omega
  have HW:=Lib.hid (show IdW Wa W Z PL XB W6.heap.size nm now (plC w.heap.size cs tk) A0 F0 A1 F1 (W6.alloc (.cells #[.map (some nm)] 131)) from ⟨HS.out.below hb67,HP5.out.below hb67,(hb67.block _ HX.out.lt).trans HX.out,hn7,hmp.below hb7,GL.of_below hb67⟩)
  have HME:=Lib.hid hmem
  have s2:(W6.alloc (.cells #[.map (some nm)] 131)).cell? ⟨w.heap.size,2,none⟩=some (.slice a3 S.ss.length c3):=(HKA.out.below HW.out.s.be).cell 2
  have HF5:=Lib.hid hf
  clear hnm hmp hnd hmem hb6 hn7 hb7 hb67 HSO HX HP5 cX hf
  gi_upto_region 9 with fail
  obtain ⟨W7,hW7⟩:∃ W7,W6.alloc (.cells #[.map (some nm)] 131)=W7:=⟨_,rfl⟩
  rw [hW7] at HW s2 ⊢
  clear hW7
  obtain ⟨NB,hNB⟩:∃ NB,W6.heap.size=NB:=⟨_,rfl⟩
  rw [hNB] at HW ⊢
  clear hNB
  gi_wp2_with fail
  gi_loopw [38] (fun x wr=>∃ (i':Nat) (A F:List Int),i'≤S.ss.length∧x = .int .i64 i'∧RowKit.Hid (IdW Wa W Z PL XB NB nm now (plC w.heap.size cs tk) A F A1 F1 wr)∧RowKit.Hid (IdM B l 2 S.ss.length (pre.map (·.1)) i i' A F)) (fun x _=>S.ss.length-(intOf x).toNat)
  case atStart=>exact ⟨0,A0,F0,Nat.zero_le _,rfl,HW,HM0⟩
  case round =>
   clear HW HM0 s2
   obtain ⟨i',A,F,hi',rfl,hW,hM⟩:=hrel
   by_cases hil2:i'<S.ss.length
   ·have hi2:(i':Int)<(S.ss.length:Int):=by omega
    have h80:(i':Int)<80:=by omega
    have cX2:wr.cell? ⟨XB,0,none⟩=some (.pointer (some ⟨PL,0,none⟩)):=hW.out.x.cell
    have HTR:=Lib.hid (try0_any v1 v2 _ _ S hc fp w.heap.size B hB l (pre.map (·.1)) i i' hil2 f HFE.out HF5.out tk PL XB NB nm Z now HME.out cs hnmZ A F A1 F1 hM.out Wa W wr HON.out HSA.out HKA.out HZ.out hplz hW.out)
    gi_wp2_with fail
    refine ⟨trivial,(fun _=>by omega),?_⟩
    refine ((callsIn_wide.2 HTR.out).inRound ly).mono ?_
    rintro e wt ⟨rfl,hg,A',F',hm',hf',hM'⟩
    have HW':=Lib.hid (hW.out.step0 HZ.out hnmZ hg hm' hf')
    have HM':=Lib.hid hM'
    clear hg hm' hf' hM' HTR cX2 hM hW
    gi_wp2
    go_roundw
    case rel=>exact ⟨i'+1,A',F',by omega,by go_num,HW',HM'⟩
    case measure=>simp [intOf];omega
   have hi2:¬ (i':Int)<(S.ss.length:Int):=by omega
   have hie:i'=S.ss.length:=by omega
   subst hie
   rename World=>W8
   have s3:W8.cell? ⟨w.heap.size,3,none⟩=some (.slice a4 S.cs.length c4):=(HKA.out.below hW.out.s.be).cell 3
   have HM8:=Lib.hid hM.out
   gi_wp2_with fail
   gi_loopw [53] (fun x wr=>∃ (i':Nat) (A' F':List Int),i'≤S.cs.length∧x = .int .i64 i'∧RowKit.Hid (IdW Wa W Z PL XB NB nm now (plC w.heap.size cs tk) A F A' F' wr)∧RowKit.Hid (IdM B l 3 S.cs.length (pre.map (·.1)) i i' A' F')) (fun x _=>S.cs.length-(intOf x).toNat)
   case atStart=>exact ⟨0,A1,F1,Nat.zero_le _,rfl,hW,HM1⟩
   case round =>
    clear hW HM1 s3 hM
    obtain ⟨i',A',F',hi',rfl,hW,hM⟩:=hrel
    by_cases hil2:i'<S.cs.length
    ·have hi3:(i':Int)<(S.cs.length:Int):=by omega
     have h24:(i':Int)<24:=by omega
     have cX2:wr.cell? ⟨XB,0,none⟩=some (.pointer (some ⟨PL,0,none⟩)):=hW.out.x.cell
     have HTR:=Lib.hid (try1_any v1 v2 _ _ S hc fp w.heap.size B hB l (pre.map (·.1)) i i' hil2 f HFE.out HF5.out tk PL XB NB nm Z now HME.out cs hnmZ A F A' F' hM.out Wa W wr HON.out HSA.out HKA.out HZ.out hplz hW.out)
     gi_wp2_with fail
     refine ⟨trivial,(fun _=>by omega),?_⟩
     refine ((callsIn_wide.2 HTR.out).inRound ly).mono ?_
     rintro e wt ⟨rfl,hg,A2,F2,hm',hf',hM'⟩
     have HW':=Lib.hid (hW.out.step1 HZ.out hnmZ hg hm' hf')
     have HM':=Lib.hid hM'
     clear hg hm' hf' hM' HTR cX2 hM hW
     gi_wp2
     go_roundw
     case rel=>exact ⟨i'+1,A2,F2,by omega,by go_num,HW',HM'⟩
     case measure=>simp [intOf];omega
    have hi3:¬ (i':Int)<(S.cs.length:Int):=by omega
    have hie:i'=S.cs.length:=by omega
    subst hie
    have HF:=Lib.hid (show KeepsFrom W4.heap.size W wr∧KpM Wa.heap.size W wr∧IdI Wa Z B S l (pre++[(i,PL)]) wr from by
     obtain ⟨q1,q2⟩:=hW.out.gl.rnd HS.out HZ.out (B:=W4.heap.size) (by omega)
     refine ⟨q1,q2,A,F,A',F',hW.out.s,fun j=>?_,fun j=>?_⟩
     ·rw [List.map_append,List.map_cons,List.map_nil]
      exact HM8.out.next j
     ·rw [List.map_append,List.map_cons,List.map_nil]
      exact hM.out.next j)
    gi_wp2
    exact HF.out
 case done =>
  intro D xs W hD hS hI hK
  obtain ⟨A0,F0,A1,F1,hs,hm0,hm1⟩:=hI.ex
  rw [hS] at hm0 hm1
  have hna:=hs.m0.nodup
  have hnb:=hs.m1.nodup
  rw [setM_keys] at hna hnb
  have hla:=idM_len (hm0 0) hna
  have hlb:=idM_len (hm1 0) hnb
  have HZ0:=Lib.hid (fun (W':World) (hb:Below W.heap.size W W')=>sorted_any Z (setM A0) W' (hs.m0.below hb) (by unfold setM;rw [List.length_map];omega))
  have HZ1:=Lib.hid (fun (W':World) (hb:Below W.heap.size W W')=>sorted_any (Z+1) (setM A1) W' (hs.m1.below hb) (by unfold setM;rw [List.length_map];omega))
  have cM0:W.cell? ⟨Z+2,0,none⟩=some (.map (some Z)):=hs.M.cell 0
  have cM1:W.cell? ⟨Z+2,1,none⟩=some (.map (some (Z+1))):=hs.M.cell 1
  have HWB:=Lib.hid (below_step HAW.out (hs.be.mono (Nat.le_refl _)))
  have HM0:=Lib.hid hm0
  have HM1:=Lib.hid hm1
  have HK:=Lib.hid hK
  have hdr:=hold2 (W0:=W) ⟨Below.refl _ _,cM0,cM1⟩ ((Below.refl _ W).drew)
  clear hm0 hm1 hna hnb hla hlb hs hI hS hK
  try dsimp only
  gi_upto_region 20 with fail
  refine wpIn_normal (wpIn_wide.2 ?_)
  go_region_held3 (fun w'=>Below W.heap.size W w'∧w'.cell? ⟨Z+2,0,none⟩=some (.map (some Z))∧w'.cell? ⟨Z+2,1,none⟩=some (.map (some (Z+1)))) (first | exact hdr | exact hn1 | exact hn2 | assumption | fail) (first | (go_at_call_of 66 (Value.map (some Z));refine (HZ0.out _ hdr.1).mono ?_;rintro e w5 ⟨vs,L,rfl,hrs,hps,hms,hb5⟩;have hn1:=hold2 hdr hb5) | (go_at_call 66;(refine (HZ1.out _ hn1.1).mono ?_);rintro e w6 ⟨vc,M,rfl,hrc,hpc,hmc,hb6⟩;have hn2:=hold2 hn1 hb6) | fail)
  have hDl:=(Array.getElem?_eq_some_iff.1 HK.out).1
  have hKD:w6.heap[D]?=some (.deferred (some [])):=(hn2.1.block D hDl).trans HK.out
  have gP:=grownBy_putObj' w6 D (.deferred none)
  have hne:∀ {v:Value} {n:Nat} {b:Nat} {xs:List Value},w6.ownsRow b 3 1 v n xs→v.ownBlock=none∨v.ownBlock≠some D:=fun h=>row_ne h (fun r e=>by cases e;exact ⟨_,hKD,rfl⟩)
  have hwz:=HWB.out.size
  have hr1:(w6.putObj D (.deferred none)).ownsRow w.heap.size 3 1 vs L.length (iCs L):=(row_base (row_later hrs hb6) hwz).kept gP (hne (row_later hrs hb6))
  have hr2:(w6.putObj D (.deferred none)).ownsRow w.heap.size 3 1 vc M.length (iCs M):=(row_base hrc (Nat.le_trans hwz hn1.1.size)).kept gP (hne hrc)
  rw [setM_keys] at hms hmc
  have HKD:=Lib.hid hKD
  have HF:=Lib.hid (show IdR S B l w (.returned (.tuple #[vs,vc,.int .i64 0])) (w6.putObj D (.deferred none)) from ⟨vs,vc,L,M,by rw [HE.out],hr1,hr2,fun _=>⟨idM_idL HAS.out HM0.out hps hms,idM_idL HAS.out HM1.out hpc hmc⟩,fun h=>absurd HE.out h,(below_step HWB.out hn2.1).grown gP (below_step HWB.out hn2.1).size (fun r e=>by cases e;have:=HZA.out;omega)⟩)
  clear hdr hn1 hn2 hb5 hb6 hrs hps hms hrc hpc hmc hDl hKD gP hne hwz hr1 hr2 cM0 cM1
  gi_wp2_with fail
  exact mark_retC HKD.out rfl (by simp [results,Tryz.results33,go_sem]) HF.out
set_option maxRecDepth 100000 in
set_option maxHeartbeats 3200000 in
theorem aidle_bad (v1 v2 v3 v4:Value) (S:Sp) (ok:SpOk S) (fp:Nat→Value) (l:List Ev) (vl:Value) (B:(Th→Int)→Pp→Bool) (w:World) (t:Tabs w) (hsp:SpRd w v1 v2 v3 v4 fp S) (hlv:ARd w vl 5 (l.map evC)) (hl:l.length≤50000) (hE:audE S l≠0) :
  Calls Tryz.prog 33 #[.agg #[v1,v2,v3,v4],vl] w (IdR S B l w):=by
 obtain ⟨al,cl,evl⟩:=hlv.evForm
 subst evl
 have hal:=(Below.refl _ w).alloc (Nat.le_refl w.heap.size) (.cells #[v1,v2,v3,v4] 27)
 have hal1:Below w.heap.size w ((w.alloc (.cells #[v1,v2,v3,v4] 27)).alloc (.cells #[.slice al l.length cl] 28)):=hal.alloc (by simp) _
 have hk1:=(Blk.new w 27 #[v1,v2,v3,v4]).alloc (.cells #[.slice al l.length cl] 28)
 have hk4:=Blk.new (w.alloc (.cells #[v1,v2,v3,v4] 27)) 28 #[.slice al l.length cl]
 rw [World.size_alloc] at hk4
 have HCK:=Lib.hid (acheck_any v1 v2 v3 v4 S ok fp w.heap.size _ [(.slice al l.length cl,l)] _ (t.below hal1) (hsp.later hal1) hk1 (by simp) (fun x hx=>by rw [List.mem_singleton.1 hx];exact Nat.le_trans hl (by omega)) (evsR_one hk4 (hlv.later hal1)))
 rw [show ([(.slice al l.length cl,l)]:List (Value × List Ev)).map (·.2)=[l] from rfl,chkE_one] at HCK
 have HAL:=Lib.hid hal1
 obtain ⟨e0,he0⟩:∃ e0,audE S l=e0:=⟨_,rfl⟩
 rw [he0] at HCK hE
 have HE:=Lib.hid he0
 have HNE:=Lib.hid hE
 have q1:(e0==0)=false:=by simpa using hE
 clear hal hal1 hk1 hk4 hsp hlv ok t he0 hE
 go_enter Tryz.func33,Tryz.ntmps33
 go_wp2_with fail
 generalize (w.alloc (.cells #[v1,v2,v3,v4] 27)).alloc (.cells #[.slice al l.length cl] 28)=W0 at *
 refine (HCK.out).mono ?_
 rintro e W ⟨rfl,hb⟩
 have HB3:=Lib.hid (below_step HAL.out hb)
 clear hb HCK HAL
 go_wp2_with fail
 refine bodyPost_ret (v:=.tuple #[.slice none 0 0,.slice none 0 0,.int .i64 e0]) (by simp [results,Tryz.results33,go_sem]) rfl ⟨.slice none 0 0,.slice none 0 0,[],[],by rw [HE.out],World.ownsRow_nil _ _ _ _,World.ownsRow_nil _ _ _ _,fun h=>absurd (HE.out.symm.trans h) HNE.out,fun _=>⟨rfl,rfl⟩,HB3.out⟩
theorem aidle_any (v1 v2 v3 v4:Value) (S:Sp) (ok:SpOk S) (fp:Nat→Value) (l:List Ev) (vl:Value) (B:(Th→Int)→Pp→Bool) (hB:SndIs S B) (w:World) (t:Tabs w) (hsp:SpRd w v1 v2 v3 v4 fp S) (hlv:ARd w vl 5 (l.map evC)) (hl:l.length≤50000) :
  Calls Tryz.prog 33 #[.agg #[v1,v2,v3,v4],vl] w (IdR S B l w):=by
 by_cases hE:audE S l=0
 ·exact callsIn_wide.1 (aidle_in 6 (Nat.le_refl 6) v1 v2 v3 v4 S ok fp l vl B hB w t hsp hlv hE)
 ·exact aidle_bad v1 v2 v3 v4 S ok fp l vl B w t hsp hlv hl hE
end Go.Proofs.YthhfmppealmblaaGreatDoor
namespace Go.Proofs.YthhfmppealmblaaGreatDoor
open Go.RowKit
theorem step_appendK {P:Program} {ops:Array Oper} {o:Oper} {a:Act} {w:World} {K:Act→World→Prop} {Q:Exit→Act→World→Prop} {E:Prop}
    (hg:o.guard=none) (d x:Operand) (dT sT:TypeId) (hop:o.op=Op.call { callee:=Callee.builtin Builtin.append,args:=#[d,x],argTypes:=#[dT,sT] })
    (v u:Value) (hd:a.eval d=v) (hx:a.eval x=u) {v':Value} {w':World} (hr:(Builtin.append_ #[dT,sT] o.type #[v,u]).run P w = .ok v' w') (hK:K (a.put o.dst v') w') :
    if Region.wanted o (yielded ops a.tmps)=true then Oper.wp P o a w K Q else E:=by
  have hw:Region.wanted o (yielded ops a.tmps)=true:=by simp [Region.wanted,hg]
  rw [if_pos hw]
  unfold Oper.wp
  simp [execOp,hop,resolve,invoke,builtin,hd,hx,hr,Result.andThen]
  exact hK
theorem ARd.preE {W:World} {a:Option Addr} {c:Nat} {l:List Ev} (h:ARd W (.slice a l.length c) 5 (l.map evC)) {i:Nat} (hi:i≤l.length) (c':Nat):ARd W (.slice a i c') 5 ((l.take i).map evC):=by
  obtain ⟨a2,c2,e,hr⟩:=h
  rw [List.length_map] at e
  cases e
  refine ⟨a,c',by simp [Nat.min_eq_left hi],fun j hj=>?_⟩
  have hj2:j<l.length:=by simp at hj;omega
  obtain ⟨b,o,ha,hlt,hc⟩:=hr j (by simpa using hj2)
  refine ⟨b,o,ha,hlt,fun k u hk=>hc k u ?_⟩
  rw [← hk]
  simp
theorem ARd.sufE {W:World} {b o c:Nat} {l:List Ev} (h:ARd W (.slice (some ⟨b,o,none⟩) l.length c) 5 (l.map evC)) {i:Nat} (hi:i<l.length) (c':Nat):ARd W (.slice (some ⟨b,o+i * 5,none⟩) (l.length-i) c') 5 ((l.drop i).map evC):=by
  obtain ⟨a2,c2,e,hr⟩:=h
  rw [List.length_map] at e
  cases e
  refine ⟨some ⟨b,o+i * 5,none⟩,c',by simp,fun j hj=>?_⟩
  have hj2:i+j<l.length:=by simp at hj;omega
  obtain ⟨b2,o2,ha,hlt,hc⟩:=hr (i+j) (by simpa using hj2)
  cases ha
  refine ⟨b,o+i * 5,rfl,hlt,fun k u hk=>?_⟩
  have:=hc k u (by rw [← hk];simp)
  rw [show o+(i+j) * 5+k=o+i * 5+j * 5+k by omega] at this
  exact this
theorem two_evs (w W0:World) (l r:List Ev) (vl vr:Value) (hb0:Below w.heap.size w W0) (h0:W0.ownsRow w.heap.size 42 5 (.slice (some ⟨w.heap.size,0,none⟩) 0 0) ([]:List Ev).length (([]:List Ev).map evC).flatten) (hl:ARd W0 vl 5 (l.map evC)) (hr:ARd w vr 5 (r.map evC)) (hn:l.length+r.length≤1000000) :
    ∃ V1 w1 V2 w2,(Builtin.append_ #[28,28] 28 #[.slice (some ⟨w.heap.size,0,none⟩) 0 0,vl]).run Tryz.prog W0 = .ok V1 w1 ∧
      (Builtin.append_ #[28,28] 28 #[V1,vr]).run Tryz.prog w1 = .ok V2 w2∧ARd w2 V2 5 ((l++r).map evC)∧Below w.heap.size w w1∧Below w.heap.size w w2:=by
  obtain ⟨V1,w1,r1,o1,g1⟩:=append_ev _ w.heap.size _ [] h0 vl l hl (by simp;omega) hb0.size
  rw [List.nil_append] at o1
  have hb1:Below w.heap.size w w1:=hb0.grown g1 hb0.size (fun j e=>by simp [Value.ownBlock] at e;omega)
  obtain ⟨V2,w2,r2,o2,g2⟩:=append_ev _ w.heap.size _ l o1 vr r (hr.later hb1) (by omega) hb1.size
  exact ⟨V1,w1,V2,w2,r1,r2,ARd.of_row (by intro r hr;obtain ⟨p,_,rfl⟩:=List.mem_map.1 hr;rfl) (by rw [List.length_map];exact o2),hb1,hb1.grown g2 hb1.size (fun j e=>row_ge o1 e)⟩
theorem append_fa (W:World) (base:Nat) (V:Value) (xs:List Fa) (hown:W.ownsRow base 52 5 V xs.length (faCs xs)) (v:Value) (l:List Fa) (hv:ARd W v 5 (l.map faC)) (hl:xs.length+l.length≤1000000000) (hb:base≤W.heap.size) :
    ∃ V' w',(Builtin.append_ #[32,32] 32 #[V,v]).run Tryz.prog W = .ok V' w'∧w'.ownsRow base 52 5 V' (xs++l).length (faCs (xs++l))∧W.grownBy w' V.ownBlock:=by
  obtain ⟨i0,hi,hz0,hz1,hz2⟩:=info_parts fa_info
  obtain ⟨V',w',h1,h2,h3⟩:=append_src W base 32 52 i0 _ 5 40 Tryz.underlying32 hi hz0 hz1 hz2 rfl (by omega) (by omega) V xs.length _ hown v (l.map faC) (by intro r hr;obtain ⟨p,_,rfl⟩:=List.mem_map.1 hr;rfl) (by intro u hu;obtain ⟨r,hr,hu⟩:=List.mem_flatten.1 hu;obtain ⟨p,_,rfl⟩:=List.mem_map.1 hr;simp only [faC,List.mem_cons,List.not_mem_nil,or_false] at hu;rcases hu with rfl | rfl | rfl | rfl | rfl <;> rfl) hv (by simpa using hl) hb
  refine ⟨V',w',h1,?_,h3⟩
  rw [List.length_map] at h2
  rw [List.length_append]
  unfold faCs at h2 ⊢
  rw [List.map_append,List.flatten_append]
  exact h2
theorem ard_cl2 {W:World} {b:Nat} {t:TypeId} (h:Blk W b t #[.int .i64 0,.int .i64 40,.int .i64 10,.int .i64 (-1),.int .i64 0,.int .i64 52,.int .i64 10,.int .i64 50]):ARd W (.slice (some ⟨b,0,none⟩) 2 2) 4 (exC2.map clC) :=
  ARd.of_blk (k:=4) (rows:=exC2.map clC) h (by intro r hr;obtain ⟨x,_,rfl⟩:=List.mem_map.1 hr;rfl) rfl _ _ rfl
theorem wpList_append_want {P:Program} (w:World) {ops:Array Oper} {rest:List Oper} {o:Oper} {a:Act} {Q:Exit→Act→World→Prop} (s x:Operand) (t tn:TypeId)
    (ho:o.op = .call { callee:=.builtin .append,args:=#[s,x],argTypes:=#[t,tn] }) (vs vx:Value) (hs:a.eval s=vs) (hx:a.eval x=vx)
    (v':Value) (w':World) (hr:(Builtin.append_ #[t,tn] o.type #[vs,vx]).run P w = .ok v' w') (hw:Region.wanted o (yielded ops a.tmps)=true) (h:wpList P ops Q rest (a.put o.dst v') w'):wpList P ops Q (o :: rest) a w :=
  wpList_step fun _ hK=>by
    rw [if_pos hw]
    exact Lib.wp_append_run w s x t tn ho vs vx hs hx v' w' hr (hK _ _ h)
theorem ARd.of_wes {W:World} {base:Nat} {t:TypeId} {v:Value} {l:List We} (h:W.ownsRow base t 4 v l.length (weCs l)):ARd W v 4 (l.map weC) :=
  ARd.of_row (by intro r hr;obtain ⟨x,_,rfl⟩:=List.mem_map.1 hr;rfl) (by rw [List.length_map];exact h)
theorem ARd.weAt {w:World} {v:Value} {l:List We} (h:ARd w v 4 (l.map weC)) (i:Nat) (hi:i<l.length):∃ b o c,v = .slice (some ⟨b,o,none⟩) l.length c∧b<w.heap.size∧w.cell? ⟨b,o+i * 4,none⟩=some (.int .i64 l[i].1.1)∧w.cell? ⟨b,o+i * 4+1,none⟩=some (.int .i64 l[i].1.2)∧w.cell? ⟨b,o+i * 4+2,none⟩=some (.int .i64 l[i].2.1)∧w.cell? ⟨b,o+i * 4+3,none⟩=some (.int .i64 l[i].2.2):=by
  obtain ⟨b,o,c,e,hlt,hc⟩:=h.at i (by simpa using hi)
  rw [List.getElem_map] at hc
  rw [List.length_map] at e
  exact ⟨b,o,c,e,hlt,hc 0 _ rfl,hc 1 _ rfl,hc 2 _ rfl,hc 3 _ rfl⟩
theorem run_eqWe (a b c d:Int) (w:World):(binOp .eql 64 (.agg #[.int .i64 a,.int .i64 b,.int .i64 c,.int .i64 d]) (.agg #[.int .i64 a,.int .i64 b,.int .i64 c,.int .i64 d])).run Tryz.prog w = .ok (.bool true) w:=by
  rw [run_eql_struct]
  rw [run_equalIn_agg w 9999 64 _ _ (by kernel_rfl) (by kernel_rfl)]
  simp only [Program.fieldsOf,Tryz.underlying64]
  simp [go_sem,Tryz.underlying3,Tryz.underlying2,part]
theorem blk_new' (W:World) (n:Nat) (h:n=W.heap.size) (t:TypeId) (cs:Array Value):Blk (W.alloc (.cells cs t)) n t cs:=by subst h;exact Blk.new W t cs
theorem ard_nil (W:World) (k:Nat):ARd W (.slice none 0 0) k []:=⟨none,0,rfl,fun i hi=>absurd hi (Nat.not_lt_zero i)⟩
theorem blkA (W:World) (c:Array Value) (t:TypeId) (o2 o3:Obj):Blk (((W.alloc (.cells c t)).alloc o2).alloc o3) W.heap.size t c:=((Blk.new W _ _).alloc _).alloc _
theorem blkB (W:World) (c:Array Value) (t:TypeId) (o1 o3:Obj):Blk (((W.alloc o1).alloc (.cells c t)).alloc o3) (W.heap.size+1) t c:=(blk_new' _ _ (by rw [World.size_alloc]) _ _).alloc _
theorem blkC (W:World) (c:Array Value) (t:TypeId) (o1 o2:Obj):Blk (((W.alloc o1).alloc o2).alloc (.cells c t)) (W.heap.size+1+1) t c:=blk_new' _ _ (by rw [World.size_alloc,World.size_alloc]) _ _
theorem three_below (W:World) (o1 o2 o3:Obj):Below W.heap.size W (((W.alloc o1).alloc o2).alloc o3):=(((Below.refl _ W).alloc (Nat.le_refl _) _).alloc (by simp) _).alloc (by simp;omega) _
theorem step_three {A W:World} (h:Below A.heap.size A W) (o1 o2 o3:Obj):Below A.heap.size A (((W.alloc o1).alloc o2).alloc o3):=below_step h (three_below W o1 o2 o3)
theorem lit_hand {W:World} {bk bs bc:Nat} {tk:TypeId} (h1:Blk W bk tk #[.slice none 0 0]) (h2:Blk W bs 3 #[.int .i64 0]) (h3:Blk W bc 3 #[.int .i64 0]):HdRd W (.slice (some ⟨bk,0,none⟩) 1 1) (.slice (some ⟨bs,0,none⟩) 1 1) (.slice (some ⟨bc,0,none⟩) 1 1) (exS 37) (onV exEv):=by
  refine ⟨⟨fun _ => .slice none 0 0,ARd.of_blk (k:=1) (rows:=(List.range 1).map fun _=>[.slice none 0 0]) h1 (by intro r hr;obtain ⟨x,_,rfl⟩:=List.mem_map.1 hr;rfl) rfl _ _ rfl,fun d hd=>?_⟩,?_,?_⟩
  · have hd1:d<1:=hd
    obtain rfl:d=0:=by omega
    rw [show ((0:Nat):Int)=0 from rfl,kn_on.2.2]
    exact ard_nil W 1
  · rw [kn_on.1]
    exact ARd.of_blk (k:=1) (rows:=([0]:List Int).map iC) h2 (by intro r hr;obtain ⟨x,_,rfl⟩:=List.mem_map.1 hr;rfl) rfl _ _ rfl
  · rw [kn_on.2.1]
    exact ARd.of_blk (k:=1) (rows:=([0]:List Int).map iC) h3 (by intro r hr;obtain ⟨x,_,rfl⟩:=List.mem_map.1 hr;rfl) rfl _ _ rfl
set_option maxRecDepth 100000 in
set_option maxHeartbeats 12800000 in
theorem auditKnown_walk (w:World) (t:Tabs w):Calls Tryz.prog 11 #[] w (BoR true w):=by
  have HT:=Lib.hid t
  clear t
  go_enter Tryz.func11,Tryz.ntmps11
  go_wp2_with fail
  refine (example_any w).mono ?_
  rintro e W1 ⟨rfl,hm,hb1⟩
  have HM1:=Lib.hid hm
  have HB1:=Lib.hid hb1
  clear hm hb1
  go_wp2_with fail
  refine (events_any W1).mono ?_
  rintro e W2 ⟨rfl,hev,hb2⟩
  have hsr:=(HM1.out.below hb2).rd
  obtain ⟨p,hp⟩:∃ p,w.heap.size=p:=⟨_,rfl⟩
  rw [hp] at hsr ⊢
  obtain ⟨pe,hpe⟩:∃ p,W1.heap.size=p:=⟨_,rfl⟩
  rw [hpe] at hev ⊢
  have HB2:=Lib.hid (below_step HB1.out hb2)
  have HP:=Lib.hid hp
  have hal:Below W2.heap.size W2 (W2.alloc (.cells #[.slice (some ⟨p+3,0,none⟩) 1 1,.slice (some ⟨p+4,0,none⟩) 2 2,.slice (some ⟨p+8,0,none⟩) 3 3,.slice (some ⟨p+9,0,none⟩) 1 1] 27)):=(Below.refl _ _).alloc (Nat.le_refl _) _
  have hk:=Blk.new W2 27 #[.slice (some ⟨p+3,0,none⟩) 1 1,.slice (some ⟨p+4,0,none⟩) 2 2,.slice (some ⟨p+8,0,none⟩) 3 3,.slice (some ⟨p+9,0,none⟩) 1 1]
  have HSR:=Lib.hid (hsr.later hal)
  have HEV:=Lib.hid (hev.later hal)
  have HK:=Lib.hid hk
  have HB3:=Lib.hid (below_step HB2.out hal)
  clear hsr hev hp hpe hb2 HM1 HB1 HB2 hal hk
  go_upto_region 2 with fail
  obtain ⟨P,hP⟩:∃ P,W2.heap.size=P:=⟨_,rfl⟩
  rw [hP] at HK ⊢
  generalize W2.alloc (.cells #[.slice (some ⟨p+3,0,none⟩) 1 1,.slice (some ⟨p+4,0,none⟩) 2 2,.slice (some ⟨p+8,0,none⟩) 3 3,.slice (some ⟨p+9,0,none⟩) 1 1] 27)=W3 at *
  obtain ⟨v1,hv1⟩:∃ v:Value,.slice (some ⟨p+3,0,none⟩) 1 1=v:=⟨_,rfl⟩
  obtain ⟨v2,hv2⟩:∃ v:Value,.slice (some ⟨p+4,0,none⟩) 2 2=v:=⟨_,rfl⟩
  obtain ⟨v3,hv3⟩:∃ v:Value,.slice (some ⟨p+8,0,none⟩) 3 3=v:=⟨_,rfl⟩
  obtain ⟨v4,hv4⟩:∃ v:Value,.slice (some ⟨p+9,0,none⟩) 1 1=v:=⟨_,rfl⟩
  rw [hv1,hv2,hv3,hv4] at HK HSR
  try rw [hv1]
  try rw [hv2]
  try rw [hv3]
  try rw [hv4]
  clear hP hv1 hv2 hv3 hv4
  obtain ⟨s0,s1,s2,s3⟩:=HK.out.four
  have hdr:=hold4 (W0:=W3) ⟨Below.refl _ W3,s0,s1,s2,s3⟩ ((Below.refl _ W3).drew)
  have HCLM:=Lib.hid (fun (W:World) (hb:Below W3.heap.size W3 W) (b:Nat) (hk:Blk W b 47 #[.int .i64 0,.int .i64 40,.int .i64 10,.int .i64 (-1),.int .i64 0,.int .i64 52,.int .i64 10,.int .i64 50])=>aclaims_any v1 v2 v3 v4 (exS 37) (exS_ok 37) _ exEv (.slice (some ⟨pe,0,none⟩) 7 7) exC2 (.slice (some ⟨b,0,none⟩) 2 2) (sndB (exS 37)) (sndB_is exS_thr) W (HT.out.below (below_step HB3.out hb)) (HSR.out.later hb) (HEV.out.later hb) (ard_cl2 hk) (by decide) (by decide))
  clear s0 s1 s2 s3
  go_cut [3,4] from 17 to 26 (fun x3 x4 wx=>∃ vf,x3=vf∧x4 = .int .i64 0∧RowKit.Hid (ARd wx vf 5 (([(2,(0,40),30,-1)]:List Fa).map faC))∧RowKit.Hid (Below W3.heap.size W3 wx))
  case first =>
    go_region_held3 (fun w'=>Below W3.heap.size W3 w'∧w'.cell? ⟨P,0,none⟩=some v1∧w'.cell? ⟨P,1,none⟩=some v2∧w'.cell? ⟨P,2,none⟩=some v3∧w'.cell? ⟨P,3,none⟩=some v4) (first | exact hdr | assumption | exact hold4 (by assumption) ((Below.refl _ _).alloc (Nat.le_refl _) _)) (first | (go_at_call 38;(with_reducible refine (flute_any 40 _).mono ?_);rintro e w5 ⟨rfl,hb5⟩;have hn5:=hold4 hdr hb5;clear hb5) | (go_at_call 38;(with_reducible refine (flute_any 52 _).mono ?_);rintro e w6 ⟨rfl,hb6⟩;have hn6:=hold4 hn5 hb6;clear hb6) | (go_at_call 14;refine (HCLM.out _ (hn6.1.alloc hn6.1.size _) _ (Blk.new _ _ _)).mono ?_;rintro e w8 ⟨vf,mf,cf,rfl,hrow,hcl,hb8⟩;obtain ⟨rfl,rfl⟩:=kn_out hcl;have hn8:=hold4 (hold4 hn6 ((Below.refl _ _).alloc (Nat.le_refl _) _)) hb8;clear hb8 hcl))
    have HQ:=Lib.hid (ARd.of_fas hrow)
    have HQB:=Lib.hid hn8.1
    clear hdr hn5 hn6 hn8 hrow
    go_wp2_with fail
    go_meet
    exact ⟨vf,rfl,rfl,HQ,HQB⟩
  case rest =>
  obtain ⟨vfa,rfl,rfl,hqa,hqb⟩:=hcut
  rename World=>W4
  have HFA4:=Lib.hid hqa.out
  have HB34:=Lib.hid hqb.out
  have HK4:=Lib.hid (HK.out.below hqb.out)
  have HE4:=Lib.hid (HEV.out.later hqb.out)
  clear hqa hqb HCLM hdr
  obtain ⟨s0,s1,s2,s3⟩:=HK4.out.four
  have hdb:Below W4.heap.size W4 (W4.alloc (.cells #[] 42)).drew:=((Below.refl _ _).alloc (Nat.le_refl _) _).drew
  have hdr:=hold4 (W0:=W4) ⟨Below.refl _ W4,s0,s1,s2,s3⟩ ((Below.refl _ W4).drew)
  have hda:=hold4 (W0:=W4) ⟨Below.refl _ W4,s0,s1,s2,s3⟩ hdb
  obtain ⟨V1,w1,V2,w2,hr1,hr2,ho,hb1,hb2⟩:=two_evs W4 (W4.alloc (.cells #[] 42)).drew (exEv.take 4) (exEv.drop 5) (.slice (some ⟨pe,0,none⟩) 4 7) (.slice (some ⟨pe,25,none⟩) 2 2) hdb ((row_emptyE W4 42).drew) ((HE4.out.later hdb).preE (l:=exEv) (i:=4) (by decide) 7) (HE4.out.sufE (l:=exEv) (i:=5) (by decide) 2) (by decide)
  have hn1:=hold4 (W0:=W4) ⟨Below.refl _ W4,s0,s1,s2,s3⟩ (show Below W4.heap.size W4 w1 from hb1)
  have hn2:=hold4 (W0:=W4) ⟨Below.refl _ W4,s0,s1,s2,s3⟩ (show Below W4.heap.size W4 w2 from hb2)
  have HCC:=Lib.hid (acompare_any v1 v2 v3 v4 (exS 37) (exS_ok 37) _ exEv (.slice (some ⟨pe,0,none⟩) 7 7) exE2 V2 (sndB (exS 37)) (sndB_is exS_thr) w2 (HT.out.below (below_step HB3.out (HB34.out.trans (hb2.mono HB34.out.size)))) (HSR.out.later (HB34.out.trans (hb2.mono HB34.out.size))) (HE4.out.later hb2) ho (by decide) (by decide))
  clear ho hb1 hb2 s0 s1 s2 s3
  go_upto_region 3 with fail
  go_cut [5,6] from 28 to 39 (fun x5 x6 wx=>∃ vf,x5=vf∧x6 = .int .i64 0∧RowKit.Hid (ARd wx vf 5 (([(2,(0,40),30,-1),(2,(0,52),50,-1)]:List Fa).map faC))∧RowKit.Hid (Below W4.heap.size W4 wx))
  case first =>
    go_region_held3 (fun w'=>Below W4.heap.size W4 w'∧w'.cell? ⟨P,0,none⟩=some v1∧w'.cell? ⟨P,1,none⟩=some v2∧w'.cell? ⟨P,2,none⟩=some v3∧w'.cell? ⟨P,3,none⟩=some v4) (first | exact hdr | exact hda | exact hn1 | exact hn2 | assumption | fail) (first | (refine step_appendK rfl _ _ 28 28 rfl (.slice (some ⟨W4.heap.size,0,none⟩) 0 0) (.slice (some ⟨pe,0,none⟩) 4 7) (by simp [Act.eval]) (by simp [Act.eval]) hr1 ?_) | (refine step_appendK rfl _ _ 28 28 rfl V1 (.slice (some ⟨pe,25,none⟩) 2 2) (by simp [Act.eval]) (by simp [Act.eval]) hr2 ?_) | (go_at_call 24;refine (HCC.out).mono ?_;rintro e w8 ⟨vf,mf,cf,rfl,hrf,hcf,hb8⟩;obtain ⟨rfl,rfl⟩:=kn_two hcf;have hn8:=hold4 hn2 hb8;clear hb8) | fail)
    all_goals
      (have HQ:=Lib.hid (ARd.of_fas hrf)
       have HQB:=Lib.hid hn8.1
       clear hdr hda hn1 hn2 hn8 hrf hcf hr1 hr2
       go_wp2_with fail
       go_meet
       exact ⟨vf,rfl,rfl,HQ,HQB⟩)
  case rest =>
  obtain ⟨vfb,rfl,rfl,hqa,hqb⟩:=hcut
  rename World=>W5
  have HFB5:=Lib.hid hqa.out
  have HK5:=Lib.hid (HK4.out.below hqb.out)
  have HE5:=Lib.hid (HE4.out.later hqb.out)
  have HFA5:=Lib.hid (HFA4.out.later hqb.out)
  have HB5:=Lib.hid (HB34.out.trans (hqb.out.mono HB34.out.size))
  clear hqa hqb HCC hr1 hr2 hdr hda hn1 hn2 hdb HFA4 HK4 HE4 HB34
  go_wp2_with fail
  refine (flute_any 40 _).mono ?_
  rintro e W6 ⟨rfl,hb⟩
  have hal:Below W5.heap.size W5 (W6.alloc (.cells #[.int .i64 2,.int .i64 0,.int .i64 40,.int .i64 30,.int .i64 (-1)] 52)):=hb.alloc hb.size _
  have HW:=Lib.hid (Blk.new W6 52 #[.int .i64 2,.int .i64 0,.int .i64 40,.int .i64 30,.int .i64 (-1)])
  have HX:=Lib.hid hb.size
  have HB7:=Lib.hid hal
  obtain ⟨s0,s1,s2,s3⟩:=(HK5.out.below hal).four
  clear hb hal
  go_upto_region 5 with fail
  obtain ⟨X,hX⟩:∃ X,W6.heap.size=X:=⟨_,rfl⟩
  rw [hX] at HW HX ⊢
  generalize W6.alloc (.cells #[.int .i64 2,.int .i64 0,.int .i64 40,.int .i64 30,.int .i64 (-1)] 52)=W7 at *
  clear hX
  have HID:=Lib.hid (aidle_any v1 v2 v3 v4 (exS 37) (exS_ok 37) _ exEv (.slice (some ⟨pe,0,none⟩) 7 7) (sndB (exS 37)) (sndB_is exS_thr) W7 (HT.out.below (below_step (below_step HB3.out HB5.out) HB7.out)) (HSR.out.later (below_step HB5.out HB7.out)) (HE5.out.later HB7.out) (by decide))
  go_wp2_with fail
  refine (HID.out).mono ?_
  rintro e W8 ⟨vs,vc,L,M,rfl,hrs,hrc,hz,_,hb⟩
  obtain ⟨hzL,hzM⟩:=hz ex_aud
  obtain rfl:=hzL.one kn_s
  obtain rfl:=hzM.one kn_c
  rw [ex_aud]
  obtain ⟨a1,c1,rfl⟩:=row_formN hrs
  have HRC:=Lib.hid (row_base hrc (Nat.zero_le _))
  have HW8:=Lib.hid (HW.out.below hb)
  have HB8:=Lib.hid (below_step HB7.out hb)
  clear hrs hrc hz hzL hzM hb HID HW HB7 s0 s1 s2 s3
  have HWR:=Lib.hid (awear_any v1 v2 v3 v4 (exS 37) (exS_ok 37) _ exEv (.slice (some ⟨pe,0,none⟩) 7 7) (sndB (exS 37)) (sndB_is exS_thr) W8 (HT.out.below (below_step (below_step HB3.out HB5.out) HB8.out)) (HSR.out.later (below_step HB5.out HB8.out)) (HE5.out.later HB8.out) (by decide))
  obtain ⟨s0,s1,s2,s3⟩:=(HK5.out.below HB8.out).four
  go_wp2_with fail
  refine (HWR.out).mono ?_
  rintro e W9 ⟨vw,rfl,hrw,hb⟩
  rw [kn_wear] at hrw
  rw [ex_aud]
  obtain ⟨a2,c2,rfl⟩:=row_formN hrw
  have HRW:=Lib.hid (row_base hrw (Nat.zero_le _))
  have HRC9:=Lib.hid (row_later HRC.out hb)
  have HW9:=Lib.hid (HW8.out.below hb)
  have HB9:=Lib.hid (below_step HB8.out hb)
  clear hrw hb HWR HW8 HB8 HRC s0 s1 s2 s3
  have HSM:=Lib.hid (same_any [(2,(0,40),30,-1)] [(2,(0,40),30,-1)] u3 (.slice (some ⟨X,0,none⟩) 1 1) W9 (HFA5.out.later HB9.out) (ARd.of_blk (k:=5) (rows:=([(2,(0,40),30,-1)]:List Fa).map faC) HW9.out (by intro r hr;obtain ⟨x,_,rfl⟩:=List.mem_map.1 hr;rfl) rfl _ _ rfl) (by decide))
  rw [decide_eq_true rfl] at HSM
  obtain ⟨vq,hvq⟩:∃ v:Value,.slice (some ⟨X,0,none⟩) 1 1=v:=⟨_,rfl⟩
  rw [hvq] at HSM ⊢
  go_wp2_with fail
  refine (HSM.out).mono ?_
  rintro e W10 ⟨rfl,hb10⟩
  clear HSM
  go_wp2_with fail
  refine (flute_any 52 _).mono ?_
  rintro e W11 ⟨rfl,hb11⟩
  have hbn:Below W11.heap.size W11 (W11.alloc (.cells #[.int .i64 2,.int .i64 0,.int .i64 52,.int .i64 50,.int .i64 (-1)] 52)):=(Below.refl _ _).alloc (Nat.le_refl _) _
  have hb9n:=below_step (below_step hb10 hb11) hbn
  have hwn:Blk (W11.alloc (.cells #[.int .i64 2,.int .i64 0,.int .i64 52,.int .i64 50,.int .i64 (-1)] 52)) X 52 #[.int .i64 2,.int .i64 0,.int .i64 40,.int .i64 30,.int .i64 (-1)]:=HW9.out.below hb9n
  obtain ⟨V',W12,hr1,ho,hg⟩:=append_fa (W11.alloc (.cells #[.int .i64 2,.int .i64 0,.int .i64 52,.int .i64 50,.int .i64 (-1)] 52)) X (.slice (some ⟨X,0,none⟩) 1 1) [(2,(0,40),30,-1)] ⟨rfl,.inr ⟨X,1,_,rfl,Nat.le_refl _,hwn,Nat.le_refl _,by unfold maxLen;omega,rfl,rfl⟩⟩ (.slice (some ⟨W11.heap.size,0,none⟩) 1 1) [(2,(0,52),50,-1)] (ARd.of_blk (k:=5) (rows:=([(2,(0,52),50,-1)]:List Fa).map faC) (Blk.new W11 _ _) (by intro r hr;obtain ⟨x,_,rfl⟩:=List.mem_map.1 hr;rfl) rfl _ _ rfl) (by simp) (Nat.le_of_lt hwn.lt)
  have hx2:=HX.out
  have hgX:(W11.alloc (.cells #[.int .i64 2,.int .i64 0,.int .i64 52,.int .i64 50,.int .i64 (-1)] 52)).grownBy W12 (some X):=hg
  have HB12:=Lib.hid ((below_step HB9.out hb9n).grown hgX (below_step HB9.out hb9n).size (fun j e=>by cases e;exact hx2))
  have HRC12:=Lib.hid ((row_later HRC9.out hb9n).kept hgX (.inr (row_not (row_later HRC9.out hb9n) hwn (by decide))))
  have HRW12:=Lib.hid ((row_later HRW.out hb9n).kept hgX (.inr (row_not (row_later HRW.out hb9n) hwn (by decide))))
  have HAB:=Lib.hid (ARd.of_fas ho)
  have HSM:=Lib.hid (same_any [(2,(0,40),30,-1),(2,(0,52),50,-1)] [(2,(0,40),30,-1),(2,(0,52),50,-1)] u5 V' W12 (HFB5.out.later HB12.out) HAB.out (by decide))
  rw [decide_eq_true rfl] at HSM
  rw [hvq] at hr1
  clear hb10 hb11 hbn hb9n hwn ho hg hgX HW9 HRC9 HRW HB9 hx2 hvq
  go_wp2_with (refine wpList_append_want _ _ _ _ _ rfl _ _ rfl rfl _ _ hr1 (by rfl) ?_)
  refine (HSM.out).mono ?_
  rintro e W13 ⟨rfl,hb⟩
  have hbn:Below W13.heap.size W13 (W13.alloc (.cells #[.int .i64 0] 3)):=(Below.refl _ _).alloc (Nat.le_refl _) _
  have HB13:=Lib.hid (below_step HB12.out (below_step hb hbn))
  have HRW13:=Lib.hid (row_later HRW12.out (below_step hb hbn))
  have HSI:=Lib.hid (same_ints [0] vc (.slice (some ⟨W13.heap.size,0,none⟩) 1 1) (W13.alloc (.cells #[.int .i64 0] 3)) (ARd.of_ints (row_later HRC12.out (below_step hb hbn))) (ARd.of_blk (k:=1) (rows:=([0]:List Int).map iC) (Blk.new W13 _ _) (by intro r hr;obtain ⟨x,_,rfl⟩:=List.mem_map.1 hr;rfl) rfl _ _ rfl) (by decide))
  clear hb hbn HSM HAB HB12 HRC12 HRW12 hr1
  go_wp2_with fail
  refine (HSI.out).mono ?_
  rintro e W14 ⟨rfl,hb⟩
  have HB14:=Lib.hid (below_step HB13.out hb)
  have HRW14:=Lib.hid (row_later HRW13.out hb)
  clear hb HSI HB13 HRW13
  have HEN:=Lib.hid (aends_any v1 v2 v3 v4 (exS 37) (exS_ok 37) _ exEv (.slice (some ⟨pe,0,none⟩) 7 7) W14 (HT.out.below (below_step (below_step HB3.out HB5.out) HB14.out)) (HSR.out.later (below_step HB5.out HB14.out)) (HE5.out.later HB14.out) (by decide))
  obtain ⟨s0,s1,s2,s3⟩:=(HK5.out.below HB14.out).four
  go_wp2_with fail
  refine (HEN.out).mono ?_
  rintro e W15 ⟨vk,vs',vc',rfl,hhd,_,hb⟩
  have hd:=hhd ex_aud
  rw [ex_aud]
  obtain ⟨⟨x1,y1,rfl⟩,⟨x2,y2,rfl⟩,⟨x3,y3,rfl⟩⟩:=hd.forms
  have hal:Below W15.heap.size W15 (W15.alloc (.cells #[.slice x1 (exS 37).ds.length y1,.slice x2 (onL (onV exEv) 2 (exS 37).ss.length).length y2,.slice x3 (onL (onV exEv) 3 (exS 37).cs.length).length y3] 70)):=(Below.refl _ _).alloc (Nat.le_refl _) _
  have HBH:=Lib.hid (Blk.new W15 70 #[.slice x1 (exS 37).ds.length y1,.slice x2 (onL (onV exEv) 2 (exS 37).ss.length).length y2,.slice x3 (onL (onV exEv) 3 (exS 37).cs.length).length y3])
  have HHD:=Lib.hid (hd.later hal)
  have HB16:=Lib.hid (below_step HB3.out (below_step HB5.out (below_step HB14.out (below_step hb hal))))
  have HRW16:=Lib.hid (row_later HRW14.out (below_step hb hal))
  clear hhd hd hb hal HEN HRW14 HB14 s0 s1 s2 s3 HE5 HFA5 HFB5 HK5 HB5
  go_upto_region 10 with fail
  obtain ⟨H,hH⟩:∃ H,W15.heap.size=H:=⟨_,rfl⟩
  rw [hH] at HBH ⊢
  generalize W15.alloc (.cells #[.slice x1 (exS 37).ds.length y1,.slice x2 (onL (onV exEv) 2 (exS 37).ss.length).length y2,.slice x3 (onL (onV exEv) 3 (exS 37).cs.length).length y3] 70)=W16 at *
  clear hH
  obtain ⟨n1,hn1⟩:∃ n,(exS 37).ds.length=n:=⟨_,rfl⟩
  obtain ⟨n2,hn2⟩:∃ n,(onL (onV exEv) 2 (exS 37).ss.length).length=n:=⟨_,rfl⟩
  obtain ⟨n3,hn3⟩:∃ n,(onL (onV exEv) 3 (exS 37).cs.length).length=n:=⟨_,rfl⟩
  rw [hn1,hn2,hn3] at HBH HHD
  try rw [hn1]
  try rw [hn2]
  try rw [hn3]
  clear hn1 hn2 hn3
  have hwd:=ARd.of_wes HRW16.out
  obtain ⟨b,o,c',ev,hbl,z0,z1,z2,z3⟩:=hwd.weAt 0 (by decide)
  cases ev
  obtain ⟨b',o',c'',ev,hbl',z4,z5,z6,z7⟩:=hwd.weAt 1 (by decide)
  cases ev
  simp only [List.getElem_cons_zero,List.getElem_cons_succ] at z0 z1 z2 z3 z4 z5 z6 z7
  have t0:=HBH.out.cell 0
  have t1:=HBH.out.cell 1
  have t2:=HBH.out.cell 2
  simp only [List.getElem?_toArray,List.getElem?_cons_zero,List.getElem?_cons_succ] at t0 t1 t2
  have he1:=fun W=>run_eqWe 0 40 1 20 W
  have he2:=fun W=>run_eqWe 0 52 1 40 W
  simp only [Nat.zero_mul,Nat.add_zero,Nat.one_mul] at z0 z1 z2 z3 z4 z5 z6 z7
  have HSH:=Lib.hid (fun (W:World) (bk bs bc:Nat) (hb:Below W16.heap.size W16 W) (h1:Blk W bk 68 #[.slice none 0 0]) (h2:Blk W bs 3 #[.int .i64 0]) (h3:Blk W bc 3 #[.int .i64 0])=>(same_hand (by decide) (onV exEv) (by decide) (by decide) _ _ _ _ _ _ _ (HHD.out.later hb) (lit_hand h1 h2 h3) :
    Calls Tryz.prog 32 #[.agg #[.slice x1 n1 y1,.slice x2 n2 y2,.slice x3 n3 y3],.agg #[.slice (some ⟨bk,0,none⟩) 1 1,.slice (some ⟨bs,0,none⟩) 1 1,.slice (some ⟨bc,0,none⟩) 1 1]] W (BoR true W)))
  have HAW:=Lib.hid (fun (W:World) (hb:Below W16.heap.size W16 W)=>awake_any W (HT.out.below (below_step HB16.out hb)))
  have hdr:=hold11 (W0:=W16) ⟨Below.refl _ W16,z0,z1,z2,z3,z4,z5,z6,z7,t0,t1,t2⟩ ((Below.refl _ W16).drew)
  clear hwd HBH HRW16 hbl hbl' z0 z1 z2 z3 z4 z5 z6 z7 t0 t1 t2
  go_region_held3 (fun w'=>Below W16.heap.size W16 w'∧w'.cell? ⟨b,o,none⟩=some (.int .i64 0)∧w'.cell? ⟨b,o+1,none⟩=some (.int .i64 40)∧w'.cell? ⟨b,o+2,none⟩=some (.int .i64 1)∧w'.cell? ⟨b,o+3,none⟩=some (.int .i64 20)∧w'.cell? ⟨b,o+4,none⟩=some (.int .i64 0)∧w'.cell? ⟨b,o+4+1,none⟩=some (.int .i64 52)∧w'.cell? ⟨b,o+4+2,none⟩=some (.int .i64 1)∧w'.cell? ⟨b,o+4+3,none⟩=some (.int .i64 40)∧w'.cell? ⟨H,0,none⟩=some (.slice x1 n1 y1)∧w'.cell? ⟨H,1,none⟩=some (.slice x2 n2 y2)∧w'.cell? ⟨H,2,none⟩=some (.slice x3 n3 y3)) (first | exact hdr | assumption | exact hold11 (by assumption) ((Below.refl _ _).alloc (Nat.le_refl _) _)) (first | (go_at_call 38;(with_reducible refine (flute_any 40 _).mono ?_);rintro e w5 ⟨rfl,hb5⟩;have hn5:=hold11 hdr hb5;clear hb5) | (go_at_call 38;(with_reducible refine (flute_any 52 _).mono ?_);rintro e w6 ⟨rfl,hb6⟩;have hn6:=hold11 hn5 hb6;clear hb6) | (go_at_call 32;(with_reducible refine (HSH.out _ _ _ _ (step_three hn6.1 _ _ _) (blkA _ _ _ _ _) (blkB _ _ _ _ _) (blkC _ _ _ _ _)).mono ?_);rintro e w7 ⟨rfl,hb7⟩;have hn7:=hold11 (hold11 hn6 (three_below _ _ _ _)) hb7;clear hb7) | (go_at_call 32;(with_reducible refine (HSH.out _ _ _ _ (step_three hn6.1 _ _ _) (blkA _ _ _ _ _) (blkC _ _ _ _ _) (blkB _ _ _ _ _)).mono ?_);rintro e w7 ⟨rfl,hb7⟩;have hn7:=hold11 (hold11 hn6 (three_below _ _ _ _)) hb7;clear hb7) | (go_at_call 32;(with_reducible refine (HSH.out _ _ _ _ (step_three hn6.1 _ _ _) (blkB _ _ _ _ _) (blkA _ _ _ _ _) (blkC _ _ _ _ _)).mono ?_);rintro e w7 ⟨rfl,hb7⟩;have hn7:=hold11 (hold11 hn6 (three_below _ _ _ _)) hb7;clear hb7) | (go_at_call 32;(with_reducible refine (HSH.out _ _ _ _ (step_three hn6.1 _ _ _) (blkB _ _ _ _ _) (blkC _ _ _ _ _) (blkA _ _ _ _ _)).mono ?_);rintro e w7 ⟨rfl,hb7⟩;have hn7:=hold11 (hold11 hn6 (three_below _ _ _ _)) hb7;clear hb7) | (go_at_call 32;(with_reducible refine (HSH.out _ _ _ _ (step_three hn6.1 _ _ _) (blkC _ _ _ _ _) (blkA _ _ _ _ _) (blkB _ _ _ _ _)).mono ?_);rintro e w7 ⟨rfl,hb7⟩;have hn7:=hold11 (hold11 hn6 (three_below _ _ _ _)) hb7;clear hb7) | (go_at_call 32;(with_reducible refine (HSH.out _ _ _ _ (step_three hn6.1 _ _ _) (blkC _ _ _ _ _) (blkB _ _ _ _ _) (blkA _ _ _ _ _)).mono ?_);rintro e w7 ⟨rfl,hb7⟩;have hn7:=hold11 (hold11 hn6 (three_below _ _ _ _)) hb7;clear hb7) | (go_at_call 13;(with_reducible refine (HAW.out _ hn7.1).mono ?_);rintro e w8 ⟨rfl,hb8⟩;have hn8:=hold11 hn7 hb8;clear hb8) | fail)
  all_goals
    (have HB9:=Lib.hid (below_step HB16.out hn8.1)
     clear hdr hn5 hn6 hn7 hn8 he1 he2
     go_wp2
     go_ret
     exact ⟨rfl,HB9.out⟩)
end Go.Proofs.YthhfmppealmblaaGreatDoor
