/-
  A part of the proof: VZ,DX,WQ,WS,JD,KN.
-/
import Derived.Test.YteflhbfgpknabaaGreatDoorK01
import Derived.Test.YteflhbfgpknabaaGreatDoorL08
import Derived.Test.YteflhbfgpknabaaGreatDoorL26
import Derived.Test.YteflhbfgpknabaaGreatDoorL29
import Derived.Test.YteflhbfgpknabaaGreatDoorL22
set_option maxRecDepth 100000
set_option maxHeartbeats 12800000
namespace Go.Proofs.YteflhbfgpknabaaGreatDoor
open Go.Lib (hid)
open Go.RowKit Go.Shelf
def nxF (S:Sp) (Hs:List Hn) (i:Nat):Int:=match Hs[i]? with
 | some h=>hnE S h
 | none=>0
theorem nxF_at {S:Sp} {Hs:List Hn} {i:Nat} (hi:i<Hs.length):nxF S Hs i=hnE S Hs[i]:=by unfold nxF;rw [List.getElem?_eq_getElem hi]
def nxE (S:Sp) (L:List Tl) (Hs:List Hn):Int:=if trlE S L≠0 then trlE S L else if 20<Hs.length then 3 else if firstErr (nxF S Hs) Hs.length≠0 then firstErr (nxF S Hs) Hs.length else if Hs.length=0 then 2 else 0
def lfV (S:Sp) (B:(Th→Int)→Pp→Bool) (M:List (List Ft)) (Hs:List Hn) (j:Nat):Nat:=match Hs[j]? with
 | some h=>leftN S B M (onH h)
 | none=>0
theorem lfV_at {S:Sp} {B:(Th→Int)→Pp→Bool} {M:List (List Ft)} {Hs:List Hn} {i:Nat} (hi:i<Hs.length):lfV S B M Hs i=leftN S B M (onH Hs[i]):=by unfold lfV;rw [List.getElem?_eq_getElem hi]
def NxP (S:Sp) (B:(Th→Int)→Pp→Bool) (L:List Tl) (most:Int) (Hs:List Hn) (i n e:Int):Prop :=
 (nxE S L Hs≠0∧i=0∧n=0∧e=nxE S L Hs)∨(nxE S L Hs=0∧∃ M e1,LsP S B L most M e1∧((e1≠0∧i=0∧n=0∧e=e1)∨(e1=0∧i=(bestI (lfV S B M Hs) (Hs.length-1)).1∧n=(bestI (lfV S B M Hs) (Hs.length-1)).2∧e=0)))
theorem NxP.one {S:Sp} {B:(Th→Int)→Pp→Bool} {L:List Tl} {most:Int} {Hs:List Hn} {i n e i' n' e':Int} (h:NxP S B L most Hs i n e) (h':NxP S B L most Hs i' n' e'):i=i'∧n=n'∧e=e':=by
 rcases h with ⟨h1,h2,h3,h4⟩ | ⟨h1,M,e1,hM,h2⟩ <;> rcases h' with ⟨k1,k2,k3,k4⟩ | ⟨k1,M',e1',hM',k2⟩
 ·exact ⟨h2.trans k2.symm,h3.trans k3.symm,h4.trans k4.symm⟩
 ·exact absurd k1 h1
 ·exact absurd h1 k1
 ·obtain ⟨rfl,rfl⟩:=hM.one hM'
  rcases h2 with ⟨a1,a2,a3,a4⟩ | ⟨a1,a2,a3,a4⟩ <;> rcases k2 with ⟨b1,b2,b3,b4⟩ | ⟨b1,b2,b3,b4⟩
  ·exact ⟨a2.trans b2.symm,a3.trans b3.symm,a4.trans b4.symm⟩
  ·exact absurd b1 a1
  ·exact absurd a1 b1
  ·exact ⟨a2.trans b2.symm,a3.trans b3.symm,a4.trans b4.symm⟩
theorem nx_trl {S:Sp} {L:List Tl} {Hs:List Hn} (h:trlE S L≠0):nxE S L Hs=trlE S L:=if_pos h
theorem nx_long {S:Sp} {L:List Tl} {Hs:List Hn} (h:trlE S L=0) (h2:20<Hs.length):nxE S L Hs=3:=by unfold nxE;rw [if_neg (by omega),if_pos h2]
theorem nx_hand {S:Sp} {L:List Tl} {Hs:List Hn} (h:trlE S L=0) (h2:¬ 20<Hs.length) {n:Int} (h3:firstErr (nxF S Hs) Hs.length=n) (hn:n≠0):nxE S L Hs=n:=by unfold nxE;rw [if_neg (by omega),if_neg h2,if_pos (by rw [h3];exact hn),h3]
theorem nx_none {S:Sp} {L:List Tl} {Hs:List Hn} (h:trlE S L=0) (h3:firstErr (nxF S Hs) Hs.length=0) (h4:Hs.length=0):nxE S L Hs=2:=by unfold nxE;rw [if_neg (by omega),if_neg (by omega),if_neg (by omega),if_pos h4]
theorem nx_in {S:Sp} {L:List Tl} {Hs:List Hn} (h:trlE S L=0) (h2:¬ 20<Hs.length) (h3:firstErr (nxF S Hs) Hs.length=0) (h4:Hs.length≠0):nxE S L Hs=0:=by unfold nxE;rw [if_neg (by omega),if_neg h2,if_neg (by omega),if_neg h4]
theorem nxP_bad {S:Sp} {B:(Th→Int)→Pp→Bool} {L:List Tl} {most:Int} {Hs:List Hn} {e:Int} (h:nxE S L Hs=e) (he:e≠0):NxP S B L most Hs 0 0 e:=.inl ⟨by rw [h];exact he,rfl,rfl,h.symm⟩
theorem nxP_err {S:Sp} {B:(Th→Int)→Pp→Bool} {L:List Tl} {most:Int} {Hs:List Hn} (h:nxE S L Hs=0) {M:List (List Ft)} {e:Int} (hM:LsP S B L most M e) (he:e≠0):NxP S B L most Hs 0 0 e:=.inr ⟨h,M,e,hM,.inl ⟨he,rfl,rfl,rfl⟩⟩
theorem lsP_ok {S:Sp} {B:(Th→Int)→Pp→Bool} {L:List Tl} {most:Int} {M:List (List Ft)} (h:LsP S B L most M 0):(∀ F∈M,FtsOk S F∧F.length≤10)∧M≠[]∧M.length≤200∧0≤most∧most≤3∧LeaP S B (trs L) most.toNat M 0:=by
 rcases h with ⟨h1,_,h3⟩ | ⟨h1,h2⟩
 ·exact absurd h3.symm h1
 ·have hm:¬ (most<0∨3<most):=fun hb=>by
   unfold lsE at h1
   by_cases a:trlE S L≠0
   ·rw [if_pos a] at h1;exact a h1
   ·rw [if_neg a] at h1
    by_cases b:20<S.ss.length∨8<S.cs.length
    ·rw [if_pos b] at h1;omega
    ·rw [if_neg b,if_pos hb] at h1;omega
  obtain ⟨many,h3,_,h4,h5,h6⟩:=leaP_ok h2
  refine ⟨fun F hF=>⟨((h4.2 F).1 hF).1,?_⟩,h5,h6,by omega,by omega,h2⟩
  have:=((h4.2 F).1 hF).2.1
  omega
def bst (v:Nat→Nat) (i:Nat):Nat × Nat:=if i=0 then (0,0) else bestI v (i-1)
theorem bst_one (v:Nat→Nat) (i:Nat):bst v (i+1)=bestI v i:=by unfold bst;rw [if_neg (by omega)];rfl
theorem bst_next (v:Nat→Nat) (i:Nat):bst v (i+1)=if i=0∨v i<(bst v i).2 then (i,v i) else bst v i:=by
 cases i with
 | zero=>rw [if_pos (.inl rfl),bst_one];rfl
 | succ i =>
  rw [bst_one,bst_one,bestI]
  by_cases h:v (i+1)<(bestI v i).2
  ·rw [if_pos h,if_pos (.inr h)]
  ·rw [if_neg h,if_neg]
   rintro (q | q)
   ·omega
   ·exact h q
theorem nxP_best {S:Sp} {B:(Th→Int)→Pp→Bool} {L:List Tl} {most:Int} {Hs:List Hn} (h:nxE S L Hs=0) (h0:Hs.length≠0) {M:List (List Ft)} (hM:LsP S B L most M 0):NxP S B L most Hs (bst (lfV S B M Hs) Hs.length).1 (bst (lfV S B M Hs) Hs.length).2 0 :=
 .inr ⟨h,M,0,hM,.inr ⟨rfl,by unfold bst;rw [if_neg h0],by unfold bst;rw [if_neg h0],rfl⟩⟩
def NxR (S:Sp) (B:(Th→Int)→Pp→Bool) (L:List Tl) (most:Int) (Hs:List Hn) (w:World) (e:Ending) (w':World):Prop:=∃ i n e0:Int,e = .returned (.tuple #[.int .i64 i,.int .i64 n,.int .i64 e0])∧NxP S B L most Hs i n e0∧Below w.heap.size w w'
theorem hands_ok {S:Sp} (hc:(checkP S).2=0) {Hs:List Hn} (h:firstErr (nxF S Hs) Hs.length=0):∀ i (hi:i<Hs.length),HnOk S Hs[i]:=fun i hi=>by
 have h1:=firstErr_none h i hi
 rw [nxF_at hi] at h1
 exact hnE_ok hc h1
theorem nextD_any (v1 v2 v3 v4:Value) (S:Sp) (ok:SpWk S) (fp:Nat→Value) (L:List Tl) (hsm:∀ t∈L,HnSm t.h∧t.l.length≤1000000) (hll:L.length≤1000000) (tv:Value) (gk gs gc gh:Nat→Value) (Hs:List Hn) (hhs:∀ h∈Hs,HnSm h) (hhl:Hs.length≤1000000) (hv:Value) (hk hss hcc:Nat→Value) (B:(Th→Int)→Pp→Bool) (hB:(checkP S).2=0→SndIs S B) (most:Int) (w:World) (hD:Deb w) (ht:Tabs w) (hsp:SpRd w v1 v2 v3 v4 fp S) (hcap:∀ i,i<S.ss.length→CapOk (fp i)) (htv:TlRd w tv L gk gs gc gh) (hhv:HnsRd w hv Hs hk hss hcc) :
  Calls Tryz.prog 24 #[.agg #[v1,v2,v3,v4],tv,.int .i64 most,hv] w (NxR S B L most Hs w):=by
 obtain ⟨at',ct,ev⟩:=htv.form
 subst ev
 obtain ⟨ah,ch,ev⟩:=hhv.form
 subst ev
 have HB0:=hid (show Below w.heap.size w (w.alloc (.cells #[v1,v2,v3,v4] 27)) from (Below.refl _ _).alloc (Nat.le_refl _) _)
 have K0:=hid (Blk.new w 27 #[v1,v2,v3,v4])
 have HCS:=hid (fun (W:World) (hb:Below w.heap.size w W)=>checkD_any v1 v2 v3 v4 S ok fp L hsm (.slice at' L.length ct) gk gs gc gh W (ht.below hb) (hsp.later hb) (htv.later hb) hll)
 have HHA:=hid (fun (i:Nat) (hi:i<Hs.length) (W:World) (hb:Below w.heap.size w W)=>checkS_any v1 v2 v3 v4 S ok fp (hk i) (hss i) (hcc i) Hs[i] (hhs _ (List.getElem_mem hi)) W (ht.below hb) (hsp.later hb) ((hhv.later hb).hd i hi))
 have HLE:=hid (fun (W:World) (hb:Below w.heap.size w W)=>leastD_any v1 v2 v3 v4 S ok fp L hsm hll (.slice at' L.length ct) gk gs gc gh B hB most W (hD.below hb) (ht.below hb) (hsp.later hb) hcap (htv.later hb))
 have HLF:=hid (fun (hc:(checkP S).2=0) (hh:firstErr (nxF S Hs) Hs.length=0) (M:List (List Ft)) (hM:(∀ F∈M,FtsOk S F∧F.length≤10)∧M≠[]∧M.length≤200) (i:Nat) (hi:i<Hs.length) (lv:Value) (g:Nat→Value) (W:World) (hb:Below w.heap.size w W) (hlv:StsRd W lv M g)=>leftD_any v1 v2 v3 v4 S ok hc fp (hk i) (hss i) (hcc i) Hs[i] (hands_ok hc hh i hi) M hM.1 hM.2.1 (by have:=hM.2.2;omega) lv g B (hB hc) W (hD.below hb) (ht.below hb) (hsp.later hb) hcap ((hhv.later hb).hd i hi) hlv)
 have HHV:=hid hhv
 obtain ⟨s0,s1,s2,s3⟩:=K0.out.four
 clear ok hsp hcap hD ht hB htv hsm hhs hhv
 go_enter Tryz.func24,Tryz.ntmps24
 go_upto_region 1 with fail
 generalize w.alloc (.cells #[v1,v2,v3,v4] 27)=W0 at *
 go_wp2_with fail
 refine (HCS.out _ HB0.out).mono ?_
 rintro e W1 ⟨rfl,hb1⟩
 have HB1:=hid (below_step HB0.out hb1)
 replace K0:=hid (K0.out.below hb1)
 clear hb1 s0 s1 s2 s3 HB0 HCS
 obtain ⟨n,hn⟩:∃ n,trlE S L=n:=⟨_,rfl⟩
 rw [hn]
 by_cases hz:n=0
 case neg =>
  have q1:(n==0)=false:=by simpa using hz
  have q2:(n != 0)=true:=by simpa using hz
  have HE:=hid (nxP_bad (B:=B) (most:=most) ((nx_trl (Hs:=Hs) (by rw [hn];exact hz)).trans hn) hz)
  clear hz hn
  go_wp2
  go_ret3
  exact ⟨_,_,_,rfl,HE.out,HB1.out⟩
 subst hz
 have HN:=hid hn
 clear hn
 by_cases h20:20<Hs.length
 ·have d1:decide ((20:Int)<(Hs.length:Int))=true:=decide_eq_true (by omega)
  have d2:decide (20<Hs.length)=true:=decide_eq_true h20
  have HE:=hid (nxP_bad (B:=B) (most:=most) (nx_long HN.out h20) (by decide))
  clear h20
  go_wp2
  go_ret3
  exact ⟨_,_,_,rfl,HE.out,HB1.out⟩
 have d1:decide ((20:Int)<(Hs.length:Int))=false:=decide_eq_false (by omega)
 have d2:decide (20<Hs.length)=false:=decide_eq_false h20
 have H20:=hid h20
 have HF0:=hid (show firstErr (nxF S Hs) 0=0 from rfl)
 clear h20
 go_wp2
 clear d1 d2
 go_loopw [8,9,30] (fun p q x wr=>∃ i:Nat,i≤Hs.length∧x = .int .i64 i∧p = .int .i64 0∧q = .int .i64 0∧Hid (firstErr (nxF S Hs) i=0)∧Hid (Below w.heap.size w wr)∧Hid (Blk wr w.heap.size 27 #[v1,v2,v3,v4])) (fun _ _ x _=>Hs.length-(intOf x).toNat)
 case atStart=>exact ⟨0,Nat.zero_le _,rfl,rfl,rfl,HF0,HB1,K0⟩
 clear HF0 HB1 K0
 obtain ⟨i,hi,rfl,rfl,rfl,hF,hB,hK⟩:=hrel
 by_cases hil:i<Hs.length
 ·have hi2:(i:Int)<(Hs.length:Int):=by omega
  obtain ⟨b,o,c',ev,_,q0,q1,q2⟩:=(HHV.out.later hB.out).at' hil
  cases ev
  obtain ⟨⟨ka,kc,ek⟩,⟨sa,sc,es⟩,⟨ca,cc,ec⟩⟩:=((HHV.out.later hB.out).hd i hil).forms
  have HCI:=hid (HHA.out i hil)
  have HNX:=hid (show firstErr (nxF S Hs) (i+1)=hnE S Hs[i] from by rw [firstErr_next hF.out,nxF_at hil])
  rw [ek] at q0 HCI
  rw [es] at q1 HCI
  rw [ec] at q2 HCI
  obtain ⟨x,hx⟩:∃ x,Hs[i]=x:=⟨_,rfl⟩
  rw [hx] at q0 q1 q2 HCI HNX
  have hba:Below wr.heap.size wr (wr.alloc (.cells #[.slice ka x.ks.length kc,.slice sa x.ss.length sc,.slice ca x.cs.length cc] 32)):=(Below.refl _ wr).alloc (Nat.le_refl _) _
  have HB2:=hid (below_step hB.out hba)
  have HK2:=hid (hK.out.below hba)
  have HX2:=hid (Blk.new wr 32 #[.slice ka x.ks.length kc,.slice sa x.ss.length sc,.slice ca x.cs.length cc])
  clear hx ek es ec hB hK
  go_upto_region 9 with fail
  obtain ⟨X,hX⟩:∃ X,wr.heap.size=X:=⟨_,rfl⟩
  rw [hX] at HX2 ⊢
  generalize wr.alloc (.cells #[.slice ka x.ks.length kc,.slice sa x.ss.length sc,.slice ca x.cs.length cc] 32)=W2 at *
  clear hba hX q0 q1 q2 hF
  obtain ⟨s0,s1,s2,s3⟩:=HK2.out.four
  obtain ⟨h0,h1,h2⟩:W2.cell? ⟨X,0,none⟩=some (.slice ka x.ks.length kc)∧W2.cell? ⟨X,1,none⟩=some (.slice sa x.ss.length sc)∧W2.cell? ⟨X,2,none⟩=some (.slice ca x.cs.length cc):=⟨HX2.out.cell 0,HX2.out.cell 1,HX2.out.cell 2⟩
  go_wp2_with fail
  refine (HCI.out _ HB2.out).mono ?_
  rintro e W3 ⟨rfl,hb3⟩
  have HB3:=hid (below_step HB2.out hb3)
  have HK3:=hid (HK2.out.below hb3)
  clear hb3 HB2 HK2 HX2 HCI s0 s1 s2 s3 h0 h1 h2
  obtain ⟨n,hn⟩:∃ n,hnE S x=n:=⟨_,rfl⟩
  rw [hn] at HNX ⊢
  clear hn
  by_cases hz:n=0
  ·subst hz
   have HF2:=hid HNX.out
   clear HNX
   go_wp2
   go_roundw
   case rel=>exact ⟨i+1,by omega,by go_num,rfl,rfl,HF2,HB3,HK3⟩
   case measure=>simp [intOf];omega
  ·have f1:(n==0)=false:=by simpa using hz
   have f2:(n != 0)=true:=by simpa using hz
   have HE:=hid (nxP_bad (B:=B) (most:=most) (nx_hand HN.out H20.out (by rw [firstErr_at (k:=i+1) (by rw [HNX.out];exact hz) (by omega),HNX.out]) hz) hz)
   clear hz HNX
   go_wp2
   go_ret3
   exact ⟨_,_,_,rfl,HE.out,HB3.out⟩
 have hi2:¬ (i:Int)<(Hs.length:Int):=by omega
 have hie:i=Hs.length:=by omega
 rw [hie] at hF
 by_cases h0:Hs.length=0
 ·have f1:((Hs.length:Int)==0)=true:=by rw [beq_iff_eq];omega
  have f2:(Hs.length==0)=true:=by rw [beq_iff_eq];exact h0
  have HE:=hid (nxP_bad (B:=B) (most:=most) (nx_none HN.out hF.out h0) (by decide))
  clear h0 hie hF
  go_wp2
  go_ret3
  exact ⟨_,_,_,rfl,HE.out,hB.out⟩
 have f1:((Hs.length:Int)==0)=false:=by rw [beq_eq_false_iff_ne];omega
 have f2:(Hs.length==0)=false:=by rw [beq_eq_false_iff_ne];exact h0
 have HNE:=hid (nx_in HN.out H20.out hF.out h0)
 have HH0:=hid h0
 obtain ⟨s0,s1,s2,s3⟩:=hK.out.four
 clear h0 hie
 go_wp2_with fail
 refine (HLE.out wr hB.out).mono ?_
 rintro e W4 ⟨lv,M,g,n,rfl,hM,hst,hb4⟩
 have HST:=hid hst.rd
 have HMM:=hid hM
 have HB4:=hid (below_step hB.out hb4)
 have HK4:=hid (hK.out.below hb4)
 obtain ⟨la,lc,rfl⟩:=own_form hst.row
 clear hst hM hb4 hB hK s0 s1 s2 s3 f1 f2 HLE
 by_cases hz:n=0
 case neg =>
  have f1:(n==0)=false:=by simpa using hz
  have f2:(n != 0)=true:=by simpa using hz
  have HE:=hid (nxP_err HNE.out HMM.out hz)
  clear hz
  go_wp2
  go_ret3
  exact ⟨_,_,_,rfl,HE.out,HB4.out⟩
 subst hz
 have HOK:=hid (lsP_ok HMM.out)
 have HRES:=hid (nxP_best HNE.out HH0.out HMM.out)
 have HLG:=hid (HLF.out (trlE_ok HN.out).1 hF.out M ⟨HOK.out.1,HOK.out.2.1,HOK.out.2.2.1⟩)
 obtain ⟨v,hvv⟩:∃ v,lfV S B M Hs=v:=⟨_,rfl⟩
 have HVA:=hid (fun (i:Nat) (hi:i<Hs.length)=>show leftN S B M (onH Hs[i])=v i from by rw [← hvv,lfV_at hi])
 rw [hvv] at HRES
 clear hvv hF HLF HOK HMM HN
 go_wp2
 go_loopw [8,9,56] (fun p q x wr=>∃ i:Nat,i≤Hs.length∧x = .int .i64 i∧p = .int .i64 (bst v i).1∧q = .int .i64 (bst v i).2∧Hid (Below w.heap.size w wr)∧Hid (Below W4.heap.size W4 wr)∧Hid (Blk wr w.heap.size 27 #[v1,v2,v3,v4])) (fun _ _ x _=>Hs.length-(intOf x).toNat)
 case atStart=>exact ⟨0,Nat.zero_le _,rfl,rfl,rfl,HB4,hid (Below.refl _ _),HK4⟩
 clear HB4 HK4
 obtain ⟨i,hi,rfl,rfl,rfl,hB,hG,hK⟩:=hrel
 by_cases hil:i<Hs.length
 ·have hi2:(i:Int)<(Hs.length:Int):=by omega
  obtain ⟨b,o,c',ev,_,q0,q1,q2⟩:=(HHV.out.later hB.out).at' hil
  cases ev
  obtain ⟨⟨ka,kc,ek⟩,⟨sa,sc,es⟩,⟨ca,cc,ec⟩⟩:=((HHV.out.later hB.out).hd i hil).forms
  have HCI:=hid (HLG.out i hil (.slice la M.length lc) g)
  rw [HVA.out i hil] at HCI
  have HBN:=hid (bst_next v i)
  rw [ek] at q0 HCI
  rw [es] at q1 HCI
  rw [ec] at q2 HCI
  obtain ⟨x,hx⟩:∃ x,Hs[i]=x:=⟨_,rfl⟩
  rw [hx] at q0 q1 q2 HCI
  have hba:Below wr.heap.size wr (wr.alloc (.cells #[.slice ka x.ks.length kc,.slice sa x.ss.length sc,.slice ca x.cs.length cc] 32)):=(Below.refl _ wr).alloc (Nat.le_refl _) _
  have HB2:=hid (below_step hB.out hba)
  have HG2:=hid (below_step hG.out hba)
  have HK2:=hid (hK.out.below hba)
  have HX2:=hid (Blk.new wr 32 #[.slice ka x.ks.length kc,.slice sa x.ss.length sc,.slice ca x.cs.length cc])
  obtain ⟨b1,hb1⟩:∃ b1:Nat,(bst v i).1=b1:=⟨_,rfl⟩
  obtain ⟨b2,hb2⟩:∃ b2:Nat,(bst v i).2=b2:=⟨_,rfl⟩
  have HBB:=hid (show bst v i=(b1,b2) from Prod.ext hb1 hb2)
  rw [HBB.out] at HBN
  rw [hb1,hb2]
  clear hx ek es ec hB hK hG hb1 hb2
  go_upto_region 21 with fail
  obtain ⟨X,hX⟩:∃ X,wr.heap.size=X:=⟨_,rfl⟩
  rw [hX] at HX2 ⊢
  generalize wr.alloc (.cells #[.slice ka x.ks.length kc,.slice sa x.ss.length sc,.slice ca x.cs.length cc] 32)=W2 at *
  clear hba hX q0 q1 q2
  obtain ⟨s0,s1,s2,s3⟩:=HK2.out.four
  obtain ⟨h0,h1,h2⟩:W2.cell? ⟨X,0,none⟩=some (.slice ka x.ks.length kc)∧W2.cell? ⟨X,1,none⟩=some (.slice sa x.ss.length sc)∧W2.cell? ⟨X,2,none⟩=some (.slice ca x.cs.length cc):=⟨HX2.out.cell 0,HX2.out.cell 1,HX2.out.cell 2⟩
  go_wp2_with fail
  refine (HCI.out W2 HB2.out (HST.out.later HG2.out)).mono ?_
  rintro e W3 ⟨rfl,hb3⟩
  have HB3:=hid (below_step HB2.out hb3)
  have HG3:=hid (below_step HG2.out hb3)
  have HK3:=hid (HK2.out.below hb3)
  clear hb3 HB2 HG2 HK2 HX2 HCI s0 s1 s2 s3 h0 h1 h2
  obtain ⟨n,hn⟩:∃ n,v i=n:=⟨_,rfl⟩
  rw [hn] at HBN ⊢
  clear hn
  by_cases hi0:i=0
  ·have f1:((i:Int)==0)=true:=by rw [beq_iff_eq];omega
   have f2:(i==0)=true:=by rw [beq_iff_eq];exact hi0
   have HE:=hid (HBN.out.trans (if_pos (.inl hi0)))
   clear hi0
   go_wp2
   go_roundw
   case rel=>exact ⟨i+1,by omega,by go_num,by rw [HE.out],by rw [HE.out],HB3,HG3,HK3⟩
   case measure=>simp [intOf];omega
  have f1:((i:Int)==0)=false:=by rw [beq_eq_false_iff_ne];omega
  have f2:(i==0)=false:=by rw [beq_eq_false_iff_ne];exact hi0
  by_cases hlt:n<b2
  ·have d1:decide ((n:Int)<(b2:Int))=true:=decide_eq_true (by omega)
   have d2:decide (n<b2)=true:=decide_eq_true hlt
   have HE:=hid (HBN.out.trans (if_pos (.inr hlt)))
   clear hi0 hlt
   go_wp2
   go_roundw
   case rel=>exact ⟨i+1,by omega,by go_num,by rw [HE.out],by rw [HE.out],HB3,HG3,HK3⟩
   case measure=>simp [intOf];omega
  ·have d1:decide ((n:Int)<(b2:Int))=false:=decide_eq_false (by omega)
   have d2:decide (n<b2)=false:=decide_eq_false hlt
   have HE:=hid (HBN.out.trans (if_neg (fun h=>h.elim hi0 hlt)))
   clear hi0 hlt
   go_wp2
   go_roundw
   case rel=>exact ⟨i+1,by omega,by go_num,by rw [HE.out],by rw [HE.out],HB3,HG3,HK3⟩
   case measure=>simp [intOf];omega
 ·have hi2:¬ (i:Int)<(Hs.length:Int):=by omega
  have hie:i=Hs.length:=by omega
  rw [← hie] at HRES
  clear hie hG hK
  go_wp2
  go_ret3
  exact ⟨_,_,_,rfl,HRES.out,hB.out⟩
end Go.Proofs.YteflhbfgpknabaaGreatDoor
namespace Go.Proofs.YteflhbfgpknabaaGreatDoor
open Go.Lib (hid)
/-! The law of DiagnosisMore. -/
open Go.RowKit Go.Shelf
section
variable {w W W' : World} {v1 v2 v3 v4 v : Value} {Hl : Hn → List Pp} {Hs : List Hn} {hk hs hc gh : Nat → Value} {k : Nat}
end
theorem step_appendK {P:Program} {ops:Array Oper} {o:Oper} {a:Act} {w:World} {K:Act→World→Prop} {Q:Exit→Act→World→Prop} {E:Prop}
  (hg:o.guard=none) (d x:Operand) (dT sT:TypeId) (hop:o.op=Op.call { callee:=Callee.builtin Builtin.append,args:=#[d,x],argTypes:=#[dT,sT] })
  (v u:Value) (hd:a.eval d=v) (hx:a.eval x=u) {v':Value} {w':World} (hr:(Builtin.append_ #[dT,sT] o.type #[v,u]).run P w = .ok v' w') (hK:K (a.put o.dst v') w') :
  if Region.wanted o (yielded ops a.tmps)=true then Oper.wp P o a w K Q else E:=by
 have hw:Region.wanted o (yielded ops a.tmps)=true:=by simp [Region.wanted,hg]
 rw [if_pos hw]
 unfold Oper.wp
 simp [execOp,hop,resolve,invoke,builtin,hd,hx,hr,Result.andThen]
 exact hK
theorem append_srcW (W:World) (base:Nat) (t e:TypeId) (i:TypeInfo) (z:Value) (size bytes:Nat) (ht:Tryz.prog.underlying t=some (.slice e)) (hi:Tryz.prog.info? e=some i) (hz:i.zero=some z) (hsize:i.size=size) (hby:i.bytes=bytes) (hzs:z.cells.size=size) (hsz:0<size) (hb64:bytes≤96)
  (V:Value) (n:Nat) (xs:List Value) (hown:W.ownsRow base e size V n xs) (v:Value) (rows:List (List Value)) (hk:∀ r∈rows,r.length=size) (h1:∀ u∈rows.flatten,u.oneCell'=true) (hv:ARd W v size rows) (hl:n+rows.length≤1000000000) (hb:base≤W.heap.size) :
  ∃ V' w',(Builtin.append_ #[t,t] t #[V,v]).run Tryz.prog W = .ok V' w'∧w'.ownsRow base e size V' (n+rows.length) (xs++rows.flatten)∧W.grownBy w' V.ownBlock:=by
 obtain ⟨a,c,rfl,hc⟩:=hv
 have hfl:=flat_len rows hk
 have hbb:(n+rows.length) * bytes≤140737488355328:=by
  have:=Nat.mul_le_mul hl hb64
  omega
 have key:∀ ad,a=some ad→(∀ j u,rows.flatten[j]?=some u→W.cell? (ad.add j)=some u)→∃ V' w',(Builtin.append_ #[t,t] t #[V,.slice a rows.length c]).run Tryz.prog W = .ok V' w'∧w'.ownsRow base e size V' (n+rows.length) (xs++rows.flatten)∧W.grownBy w' V.ownBlock:=by
  rintro ad rfl hcell
  obtain ⟨V',w',h2,h3,h4,_⟩:=run_append_own (P:=Tryz.prog) W base t t e i z size bytes ht hi hz hsize hby hzs hsz V n xs hown ad rows.length c rows.flatten hfl hcell h1 (by unfold maxLen;omega) hbb hb
  exact ⟨V',w',h2,h3,h4⟩
 rcases Nat.eq_zero_or_pos rows.length with h0 | h0
 ·have e0:rows=[]:=List.length_eq_zero_iff.1 h0
  cases a with
  | some ad=>exact key ad rfl (fun j u hj=>by rw [e0] at hj;cases hj)
  | none =>
   subst e0
   refine ⟨V,W,?_,by simpa using hown,World.grownBy.refl _ _⟩
   rcases hown.2 with ⟨rfl,rfl⟩ | ⟨g,cap,cur,rfl,_,_,hcap,_⟩
   ·simp [Builtin.append_,run_underlying ht,sizeOf,typeInfo,hi,Builtin.lenOf,Builtin.firstCells]
   ·simp [Builtin.append_,run_underlying ht,sizeOf,typeInfo,hi,Builtin.lenOf,Builtin.firstCells,hcap,storeCells]
 ·obtain ⟨b,o,rfl,_,_⟩:=hc 0 h0
  refine key _ rfl fun j u hj=>?_
  have hj2:j<rows.length * size:=by rw [← hfl];exact (List.getElem?_eq_some_iff.1 hj).1
  have hq:j / size<rows.length:=Nat.div_lt_of_lt_mul (by rw [Nat.mul_comm];exact hj2)
  have hm:j % size<size:=Nat.mod_lt _ hsz
  obtain ⟨b2,o2,e2,_,hr⟩:=hc (j / size) hq
  cases e2
  have h5:=flat_get rows hk (j / size) hq (j % size) hm
  have h6:j / size * size+j % size=j:=by rw [Nat.mul_comm];exact Nat.div_add_mod j size
  rw [h6,hj] at h5
  have h7:=hr (j % size) u h5.symm
  rw [Addr.add_lit]
  rw [Nat.add_assoc,h6] at h7
  exact h7
theorem blk_row0 {W:World} {base a:Nat} {t:TypeId} {k:Nat} (h:Blk W a t #[]) (hb:base≤a):W.ownsRow base t k (.slice (some ⟨a,0,none⟩) 0 0) 0 [] :=
 ⟨by simp,.inr ⟨a,0,#[],rfl,hb,h,by decide,by unfold maxLen;omega,by simp,by simp⟩⟩
section
variable {md : Region.Mode} {ops : Array Oper}
end
section
variable {ops : Array Oper}
theorem ja_keep {A S i:Nat} {w0 w':World} {Final:(Nat→Value)→World→Prop} {ℓ:Nat→Bool} {x':Nat→Value} (hS:i≠S) (hS2:ℓ S=false) (hb:Below w0.heap.size w0 w'):JA A S w0 Final (setB ℓ i) x' w' :=
 ⟨fun _=>hb,fun q=>by rw [setB,if_neg (fun e=>hS e.symm),hS2] at q;cases q⟩
end
end Go.Proofs.YteflhbfgpknabaaGreatDoor
namespace Go.Proofs.YteflhbfgpknabaaGreatDoor
open Go.Lib (hid)
open Go.RowKit
def JD (S d:Nat) (v0:Value) (J:(Nat→Bool)→(Nat→Value)→World→Prop) (ℓ:Nat→Bool) (x:Nat→Value) (z:World):Prop:=J ℓ x z∧(ℓ S=false→x d=v0)
theorem jd_start {S d:Nat} {v0:Value} {J:(Nat→Bool)→(Nat→Value)→World→Prop} {n:Nat} {x:Nat→Value} {w:World} (h:∀ ℓ:Nat→Bool,(∀ k,k<n→ℓ k=false)→J ℓ x w) (hx:x d=v0) (ℓ:Nat→Bool) (hl:∀ k,k<n→ℓ k=false):JD S d v0 J ℓ x w:=⟨h ℓ hl,fun _=>hx⟩
theorem jd_cong {S d:Nat} {v0:Value} {J:(Nat→Bool)→(Nat→Value)→World→Prop} {n:Nat} (hS:S<n) (h:∀ (ℓ ℓ':Nat→Bool) (x:Nat→Value) (w:World),(∀ k,k<n→ℓ k=ℓ' k)→J ℓ x w→J ℓ' x w) (ℓ ℓ':Nat→Bool) (x:Nat→Value) (w:World) (hl:∀ k,k<n→ℓ k=ℓ' k) (hj:JD S d v0 J ℓ x w):JD S d v0 J ℓ' x w:=⟨h ℓ ℓ' x w hl hj.1,fun q=>hj.2 ((hl S hS).trans q)⟩
theorem jd_plain {S d i:Nat} {v0:Value} {J:(Nat→Bool)→(Nat→Value)→World→Prop} {ℓ:Nat→Bool} {x x':Nat→Value} {w w':World} (hj:JD S d v0 J ℓ x w) (h:J (setB ℓ i) x' w') (hS:i≠S) (hx:x' d=x d):JD S d v0 J (setB ℓ i) x' w' :=
 ⟨h,fun q=>by rw [setB,if_neg (fun e=>hS e.symm)] at q;exact hx.trans (hj.2 q)⟩
theorem jd_last {S d:Nat} {v0:Value} {J:(Nat→Bool)→(Nat→Value)→World→Prop} {ℓ:Nat→Bool} {x':Nat→Value} {w':World} (h:J (setB ℓ S) x' w'):JD S d v0 J (setB ℓ S) x' w' :=
 ⟨h,fun q=>by rw [setB,if_pos rfl] at q;cases q⟩
def ndB (nd:List (Nat × Nat)) (i j:Nat):Bool:=nd.any fun p=>p.1==i&&p.2==j
def onlyN (md:Region.Mode) (ops:Array Oper) (nd:List (Nat × Nat)) (i j:Nat):Bool:=nd.all fun p=>!(p.2==j)||p.1==i||upB md ops 4 i p.1
section
variable {P : Program} {md : Region.Mode} {ops : Array Oper} {Q : Exit → Act → World → Prop} {nd : List (Nat × Nat)}
theorem ndB_in {i j:Nat} (h:ndB nd i j=true):(i,j)∈nd:=by
 obtain ⟨p,hp,h2⟩:=List.any_eq_true.1 h
 rw [Bool.and_eq_true,beq_iff_eq,beq_iff_eq] at h2
 obtain ⟨p1,p2⟩:=p
 obtain ⟨rfl,rfl⟩:=h2
 exact hp
theorem ndB_waits (h:nd.all (fun p=>Region.waitsFor md ops p.1 p.2)=true) {i j:Nat} (hn:ndB nd i j=true):Region.waitsFor md ops i j=true:=List.all_eq_true.1 h _ (ndB_in hn)
theorem onlyN_spec {i j:Nat} (h:onlyN md ops nd i j=true) {ℓ:Nat→Bool} (hd:∀ f k,upB md ops f i k=true→ℓ k=true):¬ ∃ k,k≠i∧ℓ k=false∧ndB nd k j=true:=by
 rintro ⟨k,hk,hl,hn⟩
 have h1:=List.all_eq_true.1 h _ (ndB_in hn)
 rw [Bool.or_eq_true,Bool.or_eq_true] at h1
 rcases h1 with (h1 | h1) | h1
 ·simp at h1
 ·exact hk (beq_iff_eq.1 h1)
 ·rw [hd 4 k h1] at hl;cases hl
theorem lastN_spec {i:Nat} (h:lastB md ops i=true) (hnd:nd.all (fun p=>Region.waitsFor md ops p.1 p.2)=true) {ℓ:Nat→Bool} (hd:∀ f k,upB md ops f i k=true→ℓ k=true) {j:Nat}:¬ ∃ k,k≠i∧ℓ k=false∧ndB nd k j=true :=
 fun ⟨k,h1,h2,h3⟩=>lastB_spec h hd ⟨k,h1,h2,ndB_waits hnd h3⟩
def FlowStepN (P:Program) (md:Region.Mode) (ops:Array Oper) (Q:Exit→Act→World→Prop) (F:(Nat→Value)→Act) (Res:Nat→Value→World→Prop) (nd:List (Nat × Nat)) (J:(Nat→Bool)→(Nat→Value)→World→Prop) (i:Nat) (o:Oper):Prop :=
 ∀ (ℓ:Nat→Bool) (x:Nat→Value) (w:World),J ℓ x w→ℓ i=false→(∀ f k,upB md ops f k i=true→ℓ k=false)→(∀ f k,upB md ops f i k=true→ℓ k=true)→(∀ j,ndB nd i j=true→∀ (o':Oper) (d':Nat),ops[j]?=some o'→o'.dst=some d'→Res j (x d') w) →
  ∀ K:Act→World→Prop,(∀ v w',J (setB ℓ i) (putX x o.dst v) w'→(∀ j v',ℓ j=true→(∃ k,k≠i∧ℓ k=false∧ndB nd k j=true)→Res j v' w→Res j v' w')→Res i v w'→K ((F x).put o.dst v) w')→wpOp P ops Q i K (F x) w
def JN (ops:Array Oper) (Res:Nat→Value→World→Prop) (nd:List (Nat × Nat)) (J:(Nat→Bool)→(Nat→Value)→World→Prop) (ℓ:Nat→Bool) (x:Nat→Value) (z:World):Prop :=
 J ℓ x z∧∀ (i:Nat) (o:Oper) (d:Nat),ops[i]?=some o→o.dst=some d→ℓ i=true→(∃ k,k<ops.size∧ℓ k=false∧ndB nd k i=true)→Res i (x d) z
theorem wp_region_flowN {id:Nat} (F:(Nat→Value)→Act) (Res:Nat→Value→World→Prop) (nd:List (Nat × Nat)) (J:(Nat→Bool)→(Nat→Value)→World→Prop) {a:Act} (x0:Nat→Value) {w:World} (ha:a=F x0) (hm:P.follows .mixedOrders=true) (hback:backB .any ops=true) (hapart:apartB ops=true) (hnd:nd.all (fun p=>Region.waitsFor .any ops p.1 p.2)=true)
  (start:∀ ℓ,(∀ n,n<ops.size→ℓ n=false)→J ℓ x0 w.drew)
  (hJ:∀ ℓ ℓ' x w,(∀ n,n<ops.size→ℓ n=ℓ' n)→J ℓ x w→J ℓ' x w)
  (hput:∀ (i:Nat) (o:Oper) (d:Nat),ops[i]?=some o→o.dst=some d→∀ x v,(F x).put (some d) v=F (upd x d v))
  (step:∀ (i:Nat) (o:Oper),ops[i]?=some o→FlowStepN P .any ops Q F Res nd J i o)
  (done:∀ ℓ x w,(∀ i,i<ops.size→ℓ i=true)→J ℓ x w→Q .normal (F x) w):(Code.region id ops true).wp P Q a w:=by
 refine wp_region_flowJ F (fun _ _ _=>True) (JN ops Res nd J) x0 ha hm hback hapart (fun ℓ hl=>⟨start ℓ hl,fun i o d ho _ hi _=>?_⟩) (fun ℓ ℓ' x w he h=>⟨hJ ℓ ℓ' x w he h.1,fun i o d ho hd hi hk=>?_⟩) hput (fun i o ho=>?_) (fun ℓ x w hall hj=>done ℓ x w hall hj.1)
 ·rw [hl i (Array.getElem?_eq_some_iff.1 ho).1] at hi;cases hi
 ·obtain ⟨k,k1,k2,k3⟩:=hk
  exact h.2 i o d ho hd ((he i (Array.getElem?_eq_some_iff.1 ho).1).trans hi) ⟨k,k1,(he k k1).trans k2,k3⟩
 ·intro ℓ x w hj hli hup hdl _ K hK
  have hil:=(Array.getElem?_eq_some_iff.1 ho).1
  refine step i o ho ℓ x w hj.1 hli hup hdl (fun j hn o' d' ho' hd'=>hj.2 j o' d' ho' hd' ?_ ⟨i,hil,hli,hn⟩) K (fun v w' h1 h2 h3=>hK v w' ⟨h1,fun j o' d' ho' hd' hlj hp=>?_⟩ (fun _ _ _ _ _=>trivial) trivial)
  ·have hw:=ndB_waits hnd hn
   refine hdl 1 j ?_
   unfold upB
   refine List.any_eq_true.2 ⟨j,List.mem_range.2 (Array.getElem?_eq_some_iff.1 ho').1,?_⟩
   rw [hw,decide_eq_true rfl]
   rfl
  ·obtain ⟨k,k1,k2,k3⟩:=hp
   have hki:k≠i:=fun e=>by rw [setB,if_pos e] at k2;cases k2
   rw [setB,if_neg hki] at k2
   by_cases e:j=i
   ·subst e
    obtain rfl:o'=o:=Option.some.inj (ho'.symm.trans ho)
    rw [hd',show putX x (some d') v d'=v from upd_same x d' v]
    exact h3
   ·rw [setB,if_neg e] at hlj
    have hx:putX x o.dst v d'=x d':=by
     cases hd:o.dst with
     | none=>rfl
     | some d=>exact upd_other x v (apartB_spec hapart ho' ho hd' hd e)
    rw [hx]
    exact h2 j _ hlj ⟨k,hki,k2,k3⟩ (hj.2 j o' d' ho' hd' hlj ⟨k,k1,k2,k3⟩)
end
end Go.Proofs.YteflhbfgpknabaaGreatDoor
