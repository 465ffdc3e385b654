/-
  A part of the proof: TL, TM, TO, L26.
-/
import Derived.Test.YthhfmppealmblaaGreatDoorM40
import Derived.Deep.RegionHeld3
import Derived.Test.YthhfmppealmblaaGreatDoorM24
import Derived.Test.YthhfmppealmblaaGreatDoorM38
import Derived.Test.YthhfmppealmblaaGreatDoorM39
import Derived.Test.YthhfmppealmblaaGreatDoorM41
namespace Go.Proofs.YthhfmppealmblaaGreatDoor
open Go.RowKit
structure HsR (W:World) (vh:Value) (S:Sp) (F:Int→Th→Int) (T:List Int) (ks ss cs:Nat→Value):Prop where
  rd:ARd W vh 3 ((List.range T.length).map fun d=>[ks d,ss d,cs d])
  hd:∀ d (h:d<T.length),HdRd W (ks d) (ss d) (cs d) S (F T[d])
theorem HsR.later {W W':World} {vh:Value} {S:Sp} {F:Int→Th→Int} {T:List Int} {ks ss cs:Nat→Value} (h:HsR W vh S F T ks ss cs) (hb:Below W.heap.size W W'):HsR W' vh S F T ks ss cs:=⟨h.rd.later hb,fun d hd=>(h.hd d hd).later hb⟩
theorem HsR.at' {W:World} {vh:Value} {S:Sp} {F:Int→Th→Int} {T:List Int} {ks ss cs:Nat→Value} (h:HsR W vh S F T ks ss cs) {i:Nat} (hi:i<T.length):∃ b o c,vh = .slice (some ⟨b,o,none⟩) T.length c∧b<W.heap.size∧W.cell? ⟨b,o+i * 3,none⟩=some (ks i)∧W.cell? ⟨b,o+i * 3+1,none⟩=some (ss i)∧W.cell? ⟨b,o+i * 3+2,none⟩=some (cs i):=by
  obtain ⟨b,o,c,e,hlt,hc⟩:=h.rd.at i (by simpa using hi)
  rw [List.getElem_map,List.getElem_range] at hc
  rw [List.length_map,List.length_range] at e
  exact ⟨b,o,c,e,hlt,hc 0 _ rfl,hc 1 _ rfl,hc 2 _ rfl⟩
theorem HsR.form {W:World} {vh:Value} {S:Sp} {F:Int→Th→Int} {T:List Int} {ks ss cs:Nat→Value} (h:HsR W vh S F T ks ss cs):∃ a c,vh = .slice a T.length c:=by
  obtain ⟨a,c,e⟩:=h.rd.form
  exact ⟨a,c,by simpa using e⟩
def drwB (F:Int→Th→Int) (k:Int) (i:Nat) (T:List Int):Bool:=T.any fun t=>decide (F t (k,0,(i:Int))=1)
theorem drwB_take {F:Int→Th→Int} {k:Int} {i j:Nat} {T:List Int} (h:j<T.length):drwB F k i (T.take (j+1))=(drwB F k i (T.take j) || decide (F T[j] (k,0,(i:Int))=1)):=by
  unfold drwB
  rw [List.take_succ_eq_append_getElem h,List.any_append,List.any_cons,List.any_nil,Bool.or_false]
theorem idT_end {B:(Th→Int)→Pp→Bool} {F:Int→Th→Int} {k:Int} {i:Nat} {T:List Int} (h:∀ j (hj:j<T.length),F T[j] (k,0,(i:Int))=1→B (offF k i (F T[j]))=B (F T[j])) (b:Prop) [Decidable b] (hb:b ↔ IdT B F k i T):drwB F k i T=decide b:=by
  rw [Bool.eq_iff_iff,decide_eq_true_iff,hb]
  unfold drwB IdT
  rw [List.any_eq_true]
  constructor
  · rintro ⟨t,ht,h1⟩
    refine ⟨⟨t,ht,of_decide_eq_true h1⟩,fun u hu h2=>?_⟩
    obtain ⟨j,hj,rfl⟩:=List.getElem_of_mem hu
    exact h j hj h2
  · rintro ⟨⟨t,ht,h1⟩,_⟩
    exact ⟨t,ht,decide_eq_true h1⟩
theorem idT_no {B:(Th→Int)→Pp→Bool} {F:Int→Th→Int} {k:Int} {i j:Nat} {T:List Int} (hj:j<T.length) (h1:F T[j] (k,0,(i:Int))=1) (h2:B (offF k i (F T[j]))≠B (F T[j])):¬ IdT B F k i T:=fun h=>h2 (h.2 _ (List.getElem_mem hj) h1)
set_option maxRecDepth 100000 in
set_option maxHeartbeats 12800000 in
theorem ridleS_any (v1 v2 v3 v4:Value) (S:Sp) (ok:SpOk S) (hc:(checkP S).2=0) (fp:Nat→Value) (B:(Th→Int)→Pp→Bool) (hB:SndIs S B) (vh:Value) (T:List Int) (F:Int→Th→Int) (hF:∀ t∈T,OnOk S (F t)) (i:Nat) (hi:i<S.ss.length) (ks ss cs:Nat→Value) (w:World) (hsp:SpRd w v1 v2 v3 v4 fp S) (hh:HsR w vh S F T ks ss cs) (hT:T.length≤50000) (bb:Bool) (hbb:bb=true ↔ IdT B F 2 i T) :
    Calls Tryz.prog 67 #[.agg #[v1,v2,v3,v4],vh,.int .i64 i,.bool false] w (BoR bb w):=by
  obtain ⟨ah,ch,evh⟩:=hh.form
  subst evh
  have hsg:=spGood hc
  have hol:=len_onL
  have B0:=Lib.hid (Blk.new w 27 #[v1,v2,v3,v4])
  have HB0:=Lib.hid ((Below.refl w.heap.size w).alloc (Nat.le_refl _) (.cells #[v1,v2,v3,v4] 27))
  have HPI:=Lib.hid (fun (vk vs vc:Value) (f:Th→Int) (hf:OnOk S f) (W:World) (hb:Below w.heap.size w W) (h:HdRd W vk vs vc S f)=>pipes12_any v1 v2 v3 v4 S ok hc fp vk vs vc f hf B hB W (hsp.later hb) h)
  have HSL:=Lib.hid (fun (f:Th→Int)=>show (sndL S B f).length≤4000 from sndL_len hc B f)
  have HSS:=Lib.hid (fun (f f':Th→Int)=>sndL_same hB (fun x hx key=>hsg.plays hx) (f:=f) (f':=f'))
  have HHS:=Lib.hid hh
  have HF:=Lib.hid hF
  have HBB:=Lib.hid hbb
  have HV0:=Lib.hid (show ∀ j (hj:j<T.length),j<0→F T[j] (2,0,(i:Int))=1→B (offF 2 i (F T[j]))=B (F T[j]) from fun j _ h=>absurd h (Nat.not_lt_zero j))
  have hlen:S.ss.length≤100:=by have:=hsg.ss;have:=hsg.cs;omega
  clear hsp hh hF hB ok hc hsg hbb hol
  go_enter Tryz.func67,Tryz.ntmps67
  go_wp2
  go_loopw [9,10] (fun v x wr=>∃ j:Nat,j≤T.length∧x = .int .i64 j∧v = .bool (drwB F 2 i (T.take j))∧RowKit.Hid (∀ m (hm:m<T.length),m<j→F T[m] (2,0,(i:Int))=1→B (offF 2 i (F T[m]))=B (F T[m]))∧RowKit.Hid (Below w.heap.size w wr)∧RowKit.Hid (Blk wr w.heap.size 27 #[v1,v2,v3,v4])) (fun _ x _=>T.length-(intOf x).toNat)
  case atStart=>exact ⟨0,Nat.zero_le _,rfl,by rw [List.take_zero];rfl,HV0,HB0,B0⟩
  clear HV0 HB0 B0
  obtain ⟨j,hj,rfl,rfl,hV,hW,hK⟩:=hrel
  by_cases hjl:j<T.length
  · as_aux_lemma =>
    have hj2:(j:Int)<(T.length:Int):=by omega
    obtain ⟨b,o,c',ev,hbl,q0,q1,q2⟩:=(HHS.out.later hW.out).at' hjl
    cases ev
    have hhd:=(HHS.out.later hW.out).hd j hjl
    have HOK:=Lib.hid (HF.out _ (List.getElem_mem hjl))
    have HDT:=Lib.hid (drwB_take (F:=F) (k:=2) (i:=i) hjl)
    have HNO:=Lib.hid (fun (h1:F T[j] (2,0,(i:Int))=1) (h2:B (offF 2 i (F T[j]))≠B (F T[j]))=>idT_no hjl h1 h2)
    have HYE:=Lib.hid (show (F T[j] (2,0,(i:Int))=1→B (offF 2 i (F T[j]))=B (F T[j]))→∀ m (hm:m<T.length),m<j+1→F T[m] (2,0,(i:Int))=1→B (offF 2 i (F T[m]))=B (F T[m]) from fun h m hm hmj=>by
      rcases Nat.lt_or_ge m j with q | q
      · exact hV.out m hm q
      · have:m=j:=by omega
        subst this
        exact h)
    obtain ⟨t,ht⟩:∃ t,T[j]=t:=⟨_,rfl⟩
    rw [ht] at hhd HOK HDT HNO HYE
    obtain ⟨⟨a1,c1,e1⟩,⟨a2,c2,e2⟩,⟨a3,c3,e3⟩⟩:=hhd.forms
    rw [e1,e2,e3] at hhd
    rw [e1] at q0
    rw [e2] at q1
    rw [e3] at q2
    have HMO:=Lib.hid (mem_onL_at (k:=2) (f:=F t) hi)
    have HOF:=Lib.hid (fun (W:World) (u:Value) (h:HdRd W (.slice a1 S.ds.length c1) (.slice a2 (onL (F t) 2 S.ss.length).length c2) (.slice a3 (onL (F t) 3 S.cs.length).length c3) S (F t)) (hu:ARd W u 1 ((wthL (onL (F t) 2 S.ss.length) (i:Int)).map iC))=>h.offStop (i:=i) hu)
    have hal:Below wr.heap.size wr (wr.alloc (.cells #[.slice a1 S.ds.length c1,.slice a2 (onL (F t) 2 S.ss.length).length c2,.slice a3 (onL (F t) 3 S.cs.length).length c3] 70)):=(Below.refl _ wr).alloc (Nat.le_refl _) _
    have HX:=Lib.hid (Blk.new wr 70 #[.slice a1 S.ds.length c1,.slice a2 (onL (F t) 2 S.ss.length).length c2,.slice a3 (onL (F t) 3 S.cs.length).length c3])
    have HHR:=Lib.hid hhd
    have HAB:=Lib.hid hal
    have HRD:=Lib.hid (HHS.out.later hW.out)
    have HWA:=Lib.hid (below_step hW.out hal)
    have HKA:=Lib.hid (hK.out.below hal)
    have hXl:=hW.out.size
    have HE1:=Lib.hid e1
    have HE2:=Lib.hid e2
    have HE3:=Lib.hid e3
    clear ht e1 e2 e3 hhd hV
    go_upto_region 7 with fail
    obtain ⟨X,hX⟩:∃ X,wr.heap.size=X:=⟨_,rfl⟩
    rw [hX] at HX hXl ⊢
    generalize wr.alloc (.cells #[.slice a1 S.ds.length c1,.slice a2 (onL (F t) 2 S.ss.length).length c2,.slice a3 (onL (F t) 3 S.cs.length).length c3] 70)=W3 at *
    have hXw:wr.heap.size≤X:=by omega
    clear hX hal q0 q1 q2
    have HWO:=Lib.hid (without_any (onL (F t) 2 S.ss.length) (i:Int) _ W3 ((HHR.out.stops).later HAB.out) (by have:=len_onL (F t) 2 S.ss.length;omega))
    have y1:=HX.out.cell 1
    simp only [List.getElem?_toArray,List.getElem?_cons_zero,List.getElem?_cons_succ] at y1
    have hxf:=HX.out.frozen 1
    go_wp2_with fail
    refine (HWO.out).mono ?_
    rintro e W4 ⟨u,rfl,hro,hb4⟩
    have hX4:=HX.out.below hb4
    obtain ⟨au,cu,evu⟩:=row_formN hro
    subst evu
    have hg:=set_grown W4 X 1 (.slice au (wthL (onL (F t) 2 S.ss.length) (i:Int)).length cu)
    have HU:=Lib.hid (ARd.of_ints (hro.kept hg (blk_off_row hX4 hro (by decide))))
    have HX5:=Lib.hid (hX4.set 1 (.slice au (wthL (onL (F t) 2 S.ss.length) (i:Int)).length cu))
    have HAB5:=Lib.hid ((below_step HAB.out hb4).setCell (p:=⟨X,1,none⟩) hXw (.slice au (wthL (onL (F t) 2 S.ss.length) (i:Int)).length cu))
    have HX4:=Lib.hid hX4
    have hf5:=hX4.frozen 1
    have hc5:=hX4.cell 1
    simp only [List.getElem?_toArray,List.getElem?_cons_zero,List.getElem?_cons_succ] at hc5
    have HM:=Lib.hid HMO.out
    clear hro hb4 hg hX4 HWO HX HAB HWA HKA y1 hxf
    go_upto_region 10 with fail
    generalize W4.setCell ⟨X,1,none⟩ (.slice au (wthL (onL (F t) 2 S.ss.length) (i:Int)).length cu)=W5 at *
    clear hf5 hc5 HX4
    have HW5:=Lib.hid (below_step hW.out HAB5.out)
    have HK5:=Lib.hid (hK.out.below HAB5.out)
    have HX6:=Lib.hid (show Blk W5 X 70 #[.slice a1 S.ds.length c1,.slice au (wthL (onL (F t) 2 S.ss.length) (i:Int)).length cu,.slice a3 (onL (F t) 3 S.cs.length).length c3] from HX5.out)
    by_cases hin:(i:Int)∈onL (F t) 2 S.ss.length
    case neg =>
      have h0:¬ F t (2,0,(i:Int))=1:=fun h=>hin (HM.out.2 h)
      have HV5:=Lib.hid (HYE.out (fun h=>absurd h h0))
      have HD5:=Lib.hid (show drwB F 2 i (T.take (j+1))=drwB F 2 i (T.take j) by rw [HDT.out,decide_eq_false h0,Bool.or_false])
      have d1:decide ((i:Int)∈onL (F t) 2 S.ss.length)=false:=decide_eq_false hin
      clear hin h0
      go_wp2
      go_roundw
      case rel=>exact ⟨j+1,by omega,by go_num,by rw [HD5.out],HV5,HW5,HK5⟩
      case measure=>simp [intOf];omega
    have h0:F t (2,0,(i:Int))=1:=HM.out.1 hin
    have HD5:=Lib.hid (show drwB F 2 i (T.take (j+1))=true by rw [HDT.out,decide_eq_true h0,Bool.or_true])
    have HNO2:=Lib.hid (HNO.out h0)
    have HYE2:=Lib.hid (fun h=>HYE.out (fun _=>h))
    have d1:decide ((i:Int)∈onL (F t) 2 S.ss.length)=true:=decide_eq_true hin
    clear hin h0 HM HMO HDT HNO HYE
    obtain ⟨s0,s1,s2,s3⟩:=HK5.out.four
    obtain ⟨b',o',c',ev',hbl',q0,q1,q2⟩:=(HRD.out.later HAB5.out).at' hjl
    cases ev'
    rw [HE1.out] at q0
    rw [HE2.out] at q1
    rw [HE3.out] at q2
    have HP1:=Lib.hid (fun (W:World) (hb:Below W5.heap.size W5 W)=>HPI.out _ _ _ (F t) HOK.out W (below_step HW5.out hb) ((HHR.out.later HAB5.out).later hb))
    have HP2:=Lib.hid (fun (W:World) (hb:Below W5.heap.size W5 W)=>HPI.out _ _ _ (offF 2 i (F t)) HOK.out.off W (below_step HW5.out hb) (HOF.out W _ ((HHR.out.later HAB5.out).later hb) (HU.out.later hb)))
    have hdr:=hold7 (W0:=W5) ⟨Below.refl _ W5,s0,s1,s2,s3,q0,q1,q2⟩ ((Below.refl _ W5).drew)
    go_upto_region 12 with fail
    go_region_held3 (fun w'=>Below W5.heap.size W5 w'∧w'.cell? ⟨w.heap.size,0,none⟩=some v1∧w'.cell? ⟨w.heap.size,1,none⟩=some v2∧w'.cell? ⟨w.heap.size,2,none⟩=some v3∧w'.cell? ⟨w.heap.size,3,none⟩=some v4∧w'.cell? ⟨b,o+j * 3,none⟩=some (.slice a1 S.ds.length c1)∧w'.cell? ⟨b,o+j * 3+1,none⟩=some (.slice a2 (onL (F t) 2 S.ss.length).length c2)∧w'.cell? ⟨b,o+j * 3+2,none⟩=some (.slice a3 (onL (F t) 3 S.cs.length).length c3)) (first | exact hdr | assumption | fail) (first | (go_at_call 51;(with_reducible refine (HP1.out _ hdr.1).mono ?_);rintro e w2 ⟨vp,rfl,hrp,hb2⟩;have hn:=hold7 hdr hb2;clear hb2) | fail)
    all_goals
      (have HB2:=Lib.hid hn.1
       have HR2:=Lib.hid (ARd.of_pps hrp)
       clear hdr hn hrp s0 s1 s2 s3 q0 q1 q2 HP1
       obtain ⟨s0,s1,s2,s3⟩:=(HK5.out.below HB2.out).four
       have hX7:=HX6.out.below HB2.out
       have x0:=hX7.cell 0
       have x1:=hX7.cell 1
       have x2:=hX7.cell 2
       simp only [List.getElem?_toArray,List.getElem?_cons_zero,List.getElem?_cons_succ] at x0 x1 x2
       clear hX7
       go_wp2_with fail
       refine (HP2.out _ HB2.out).mono ?_
       rintro e w4 ⟨vq,rfl,hrq,hb4⟩
       have HB4:=Lib.hid (below_step HB2.out hb4)
       have HR4:=Lib.hid (HR2.out.later hb4)
       have HR5:=Lib.hid (ARd.of_pps hrq)
       clear hrq hb4 HB2 HR2 HP2 s0 s1 s2 s3 x0 x1 x2
       have HSA:=Lib.hid (samep_any (sndL S B (F t)) (sndL S B (offF 2 i (F t))) _ _ w4 HR4.out HR5.out (Nat.le_trans (HSL.out (F t)) (by omega)))
       go_wp2_with fail
       refine (HSA.out).mono ?_
       rintro e w5 ⟨rfl,hb5⟩
       have HB6:=Lib.hid (below_step HB4.out hb5)
       have HW6:=Lib.hid (below_step HW5.out HB6.out)
       have HK6:=Lib.hid (HK5.out.below HB6.out)
       clear hb5 HB4 HR4 HR5 HSA
       by_cases hsm:sndL S B (F t)=sndL S B (offF 2 i (F t))
       case neg =>
         have hno:=HNO2.out (fun q=>hsm (((HSS.out _ _).2 q).symm))
         have HBF:=Lib.hid (show bb=false by
           cases hb:bb with
           | false=>rfl
           | true=>exact absurd (HBB.out.1 hb) hno)
         have d2:decide (sndL S B (F t)=sndL S B (offF 2 i (F t)))=false:=decide_eq_false hsm
         clear hno hsm
         go_wp2
         go_ret
         exact ⟨by rw [HBF.out];rfl,HW6.out⟩
       have HV6:=Lib.hid (HYE2.out (((HSS.out _ _).1 hsm).symm))
       have d2:decide (sndL S B (F t)=sndL S B (offF 2 i (F t)))=true:=decide_eq_true hsm
       clear hsm
       go_wp2
       go_roundw
       case rel=>exact ⟨j+1,by omega,by go_num,by rw [HD5.out],HV6,HW6,HK6⟩
       case measure=>simp [intOf];omega)
  have hje:j=T.length:=by omega
  subst hje
  have hj2:¬ (T.length:Int)<(T.length:Int):=by omega
  have HEND:=Lib.hid (idT_end (B:=B) (F:=F) (k:=2) (i:=i) (T:=T) (fun m hm=>hV.out m hm hm) (bb=true) HBB.out)
  rw [List.take_length]
  clear hj
  go_wp2
  go_ret
  exact ⟨by rw [HEND.out];simp,hW.out⟩
set_option maxRecDepth 100000 in
set_option maxHeartbeats 12800000 in
theorem ridleC_any (v1 v2 v3 v4:Value) (S:Sp) (ok:SpOk S) (hc:(checkP S).2=0) (fp:Nat→Value) (B:(Th→Int)→Pp→Bool) (hB:SndIs S B) (vh:Value) (T:List Int) (F:Int→Th→Int) (hF:∀ t∈T,OnOk S (F t)) (i:Nat) (hi:i<S.cs.length) (ks ss cs:Nat→Value) (w:World) (hsp:SpRd w v1 v2 v3 v4 fp S) (hh:HsR w vh S F T ks ss cs) (hT:T.length≤50000) (bb:Bool) (hbb:bb=true ↔ IdT B F 3 i T) :
    Calls Tryz.prog 67 #[.agg #[v1,v2,v3,v4],vh,.int .i64 i,.bool true] w (BoR bb w):=by
  obtain ⟨ah,ch,evh⟩:=hh.form
  subst evh
  have hsg:=spGood hc
  have hol:=len_onL
  have B0:=Lib.hid (Blk.new w 27 #[v1,v2,v3,v4])
  have HB0:=Lib.hid ((Below.refl w.heap.size w).alloc (Nat.le_refl _) (.cells #[v1,v2,v3,v4] 27))
  have HPI:=Lib.hid (fun (vk vs vc:Value) (f:Th→Int) (hf:OnOk S f) (W:World) (hb:Below w.heap.size w W) (h:HdRd W vk vs vc S f)=>pipes12_any v1 v2 v3 v4 S ok hc fp vk vs vc f hf B hB W (hsp.later hb) h)
  have HSL:=Lib.hid (fun (f:Th→Int)=>show (sndL S B f).length≤4000 from sndL_len hc B f)
  have HSS:=Lib.hid (fun (f f':Th→Int)=>sndL_same hB (fun x hx key=>hsg.plays hx) (f:=f) (f':=f'))
  have HHS:=Lib.hid hh
  have HF:=Lib.hid hF
  have HBB:=Lib.hid hbb
  have HV0:=Lib.hid (show ∀ j (hj:j<T.length),j<0→F T[j] (3,0,(i:Int))=1→B (offF 3 i (F T[j]))=B (F T[j]) from fun j _ h=>absurd h (Nat.not_lt_zero j))
  have hlen:S.cs.length≤100:=by have:=hsg.ss;have:=hsg.cs;omega
  clear hsp hh hF hB ok hc hsg hbb hol
  go_enter Tryz.func67,Tryz.ntmps67
  go_wp2
  go_loopw [9,10] (fun v x wr=>∃ j:Nat,j≤T.length∧x = .int .i64 j∧v = .bool (drwB F 3 i (T.take j))∧RowKit.Hid (∀ m (hm:m<T.length),m<j→F T[m] (3,0,(i:Int))=1→B (offF 3 i (F T[m]))=B (F T[m]))∧RowKit.Hid (Below w.heap.size w wr)∧RowKit.Hid (Blk wr w.heap.size 27 #[v1,v2,v3,v4])) (fun _ x _=>T.length-(intOf x).toNat)
  case atStart=>exact ⟨0,Nat.zero_le _,rfl,by rw [List.take_zero];rfl,HV0,HB0,B0⟩
  clear HV0 HB0 B0
  obtain ⟨j,hj,rfl,rfl,hV,hW,hK⟩:=hrel
  by_cases hjl:j<T.length
  · as_aux_lemma =>
    have hj2:(j:Int)<(T.length:Int):=by omega
    obtain ⟨b,o,c',ev,hbl,q0,q1,q2⟩:=(HHS.out.later hW.out).at' hjl
    cases ev
    have hhd:=(HHS.out.later hW.out).hd j hjl
    have HOK:=Lib.hid (HF.out _ (List.getElem_mem hjl))
    have HDT:=Lib.hid (drwB_take (F:=F) (k:=3) (i:=i) hjl)
    have HNO:=Lib.hid (fun (h1:F T[j] (3,0,(i:Int))=1) (h2:B (offF 3 i (F T[j]))≠B (F T[j]))=>idT_no hjl h1 h2)
    have HYE:=Lib.hid (show (F T[j] (3,0,(i:Int))=1→B (offF 3 i (F T[j]))=B (F T[j]))→∀ m (hm:m<T.length),m<j+1→F T[m] (3,0,(i:Int))=1→B (offF 3 i (F T[m]))=B (F T[m]) from fun h m hm hmj=>by
      rcases Nat.lt_or_ge m j with q | q
      · exact hV.out m hm q
      · have:m=j:=by omega
        subst this
        exact h)
    obtain ⟨t,ht⟩:∃ t,T[j]=t:=⟨_,rfl⟩
    rw [ht] at hhd HOK HDT HNO HYE
    obtain ⟨⟨a1,c1,e1⟩,⟨a2,c2,e2⟩,⟨a3,c3,e3⟩⟩:=hhd.forms
    rw [e1,e2,e3] at hhd
    rw [e1] at q0
    rw [e2] at q1
    rw [e3] at q2
    have HMO:=Lib.hid (mem_onL_at (k:=3) (f:=F t) hi)
    have HOF:=Lib.hid (fun (W:World) (u:Value) (h:HdRd W (.slice a1 S.ds.length c1) (.slice a2 (onL (F t) 2 S.ss.length).length c2) (.slice a3 (onL (F t) 3 S.cs.length).length c3) S (F t)) (hu:ARd W u 1 ((wthL (onL (F t) 3 S.cs.length) (i:Int)).map iC))=>h.offCou (i:=i) hu)
    have hal:Below wr.heap.size wr (wr.alloc (.cells #[.slice a1 S.ds.length c1,.slice a2 (onL (F t) 2 S.ss.length).length c2,.slice a3 (onL (F t) 3 S.cs.length).length c3] 70)):=(Below.refl _ wr).alloc (Nat.le_refl _) _
    have HX:=Lib.hid (Blk.new wr 70 #[.slice a1 S.ds.length c1,.slice a2 (onL (F t) 2 S.ss.length).length c2,.slice a3 (onL (F t) 3 S.cs.length).length c3])
    have HHR:=Lib.hid hhd
    have HAB:=Lib.hid hal
    have HRD:=Lib.hid (HHS.out.later hW.out)
    have HWA:=Lib.hid (below_step hW.out hal)
    have HKA:=Lib.hid (hK.out.below hal)
    have hXl:=hW.out.size
    have HE1:=Lib.hid e1
    have HE2:=Lib.hid e2
    have HE3:=Lib.hid e3
    clear ht e1 e2 e3 hhd hV
    go_upto_region 7 with fail
    obtain ⟨X,hX⟩:∃ X,wr.heap.size=X:=⟨_,rfl⟩
    rw [hX] at HX hXl ⊢
    generalize wr.alloc (.cells #[.slice a1 S.ds.length c1,.slice a2 (onL (F t) 2 S.ss.length).length c2,.slice a3 (onL (F t) 3 S.cs.length).length c3] 70)=W3 at *
    have hXw:wr.heap.size≤X:=by omega
    clear hX hal q0 q1 q2
    have HWO:=Lib.hid (without_any (onL (F t) 3 S.cs.length) (i:Int) _ W3 ((HHR.out.cous).later HAB.out) (by have:=len_onL (F t) 3 S.cs.length;omega))
    have y2:=HX.out.cell 2
    simp only [List.getElem?_toArray,List.getElem?_cons_zero,List.getElem?_cons_succ] at y2
    have hxf:=HX.out.frozen 2
    go_wp2_with fail
    refine (HWO.out).mono ?_
    rintro e W4 ⟨u,rfl,hro,hb4⟩
    have hX4:=HX.out.below hb4
    obtain ⟨au,cu,evu⟩:=row_formN hro
    subst evu
    have hg:=set_grown W4 X 2 (.slice au (wthL (onL (F t) 3 S.cs.length) (i:Int)).length cu)
    have HU:=Lib.hid (ARd.of_ints (hro.kept hg (blk_off_row hX4 hro (by decide))))
    have HX5:=Lib.hid (hX4.set 2 (.slice au (wthL (onL (F t) 3 S.cs.length) (i:Int)).length cu))
    have HAB5:=Lib.hid ((below_step HAB.out hb4).setCell (p:=⟨X,2,none⟩) hXw (.slice au (wthL (onL (F t) 3 S.cs.length) (i:Int)).length cu))
    have HX4:=Lib.hid hX4
    have hf5:=hX4.frozen 2
    have hc5:=hX4.cell 2
    simp only [List.getElem?_toArray,List.getElem?_cons_zero,List.getElem?_cons_succ] at hc5
    have HM:=Lib.hid HMO.out
    clear hro hb4 hg hX4 HWO HX HAB HWA HKA y2 hxf
    go_upto_region 10 with fail
    generalize W4.setCell ⟨X,2,none⟩ (.slice au (wthL (onL (F t) 3 S.cs.length) (i:Int)).length cu)=W5 at *
    clear hf5 hc5 HX4
    have HW5:=Lib.hid (below_step hW.out HAB5.out)
    have HK5:=Lib.hid (hK.out.below HAB5.out)
    have HX6:=Lib.hid (show Blk W5 X 70 #[.slice a1 S.ds.length c1,.slice a2 (onL (F t) 2 S.ss.length).length c2,.slice au (wthL (onL (F t) 3 S.cs.length) (i:Int)).length cu] from HX5.out)
    by_cases hin:(i:Int)∈onL (F t) 3 S.cs.length
    case neg =>
      have h0:¬ F t (3,0,(i:Int))=1:=fun h=>hin (HM.out.2 h)
      have HV5:=Lib.hid (HYE.out (fun h=>absurd h h0))
      have HD5:=Lib.hid (show drwB F 3 i (T.take (j+1))=drwB F 3 i (T.take j) by rw [HDT.out,decide_eq_false h0,Bool.or_false])
      have d1:decide ((i:Int)∈onL (F t) 3 S.cs.length)=false:=decide_eq_false hin
      clear hin h0
      go_wp2
      go_roundw
      case rel=>exact ⟨j+1,by omega,by go_num,by rw [HD5.out],HV5,HW5,HK5⟩
      case measure=>simp [intOf];omega
    have h0:F t (3,0,(i:Int))=1:=HM.out.1 hin
    have HD5:=Lib.hid (show drwB F 3 i (T.take (j+1))=true by rw [HDT.out,decide_eq_true h0,Bool.or_true])
    have HNO2:=Lib.hid (HNO.out h0)
    have HYE2:=Lib.hid (fun h=>HYE.out (fun _=>h))
    have d1:decide ((i:Int)∈onL (F t) 3 S.cs.length)=true:=decide_eq_true hin
    clear hin h0 HM HMO HDT HNO HYE
    obtain ⟨s0,s1,s2,s3⟩:=HK5.out.four
    obtain ⟨b',o',c',ev',hbl',q0,q1,q2⟩:=(HRD.out.later HAB5.out).at' hjl
    cases ev'
    rw [HE1.out] at q0
    rw [HE2.out] at q1
    rw [HE3.out] at q2
    have HP1:=Lib.hid (fun (W:World) (hb:Below W5.heap.size W5 W)=>HPI.out _ _ _ (F t) HOK.out W (below_step HW5.out hb) ((HHR.out.later HAB5.out).later hb))
    have HP2:=Lib.hid (fun (W:World) (hb:Below W5.heap.size W5 W)=>HPI.out _ _ _ (offF 3 i (F t)) HOK.out.off W (below_step HW5.out hb) (HOF.out W _ ((HHR.out.later HAB5.out).later hb) (HU.out.later hb)))
    have hdr:=hold7 (W0:=W5) ⟨Below.refl _ W5,s0,s1,s2,s3,q0,q1,q2⟩ ((Below.refl _ W5).drew)
    go_upto_region 12 with fail
    go_region_held3 (fun w'=>Below W5.heap.size W5 w'∧w'.cell? ⟨w.heap.size,0,none⟩=some v1∧w'.cell? ⟨w.heap.size,1,none⟩=some v2∧w'.cell? ⟨w.heap.size,2,none⟩=some v3∧w'.cell? ⟨w.heap.size,3,none⟩=some v4∧w'.cell? ⟨b,o+j * 3,none⟩=some (.slice a1 S.ds.length c1)∧w'.cell? ⟨b,o+j * 3+1,none⟩=some (.slice a2 (onL (F t) 2 S.ss.length).length c2)∧w'.cell? ⟨b,o+j * 3+2,none⟩=some (.slice a3 (onL (F t) 3 S.cs.length).length c3)) (first | exact hdr | assumption | fail) (first | (go_at_call 51;(with_reducible refine (HP1.out _ hdr.1).mono ?_);rintro e w2 ⟨vp,rfl,hrp,hb2⟩;have hn:=hold7 hdr hb2;clear hb2) | fail)
    all_goals
      (have HB2:=Lib.hid hn.1
       have HR2:=Lib.hid (ARd.of_pps hrp)
       clear hdr hn hrp s0 s1 s2 s3 q0 q1 q2 HP1
       obtain ⟨s0,s1,s2,s3⟩:=(HK5.out.below HB2.out).four
       have hX7:=HX6.out.below HB2.out
       have x0:=hX7.cell 0
       have x1:=hX7.cell 1
       have x2:=hX7.cell 2
       simp only [List.getElem?_toArray,List.getElem?_cons_zero,List.getElem?_cons_succ] at x0 x1 x2
       clear hX7
       go_wp2_with fail
       refine (HP2.out _ HB2.out).mono ?_
       rintro e w4 ⟨vq,rfl,hrq,hb4⟩
       have HB4:=Lib.hid (below_step HB2.out hb4)
       have HR4:=Lib.hid (HR2.out.later hb4)
       have HR5:=Lib.hid (ARd.of_pps hrq)
       clear hrq hb4 HB2 HR2 HP2 s0 s1 s2 s3 x0 x1 x2
       have HSA:=Lib.hid (samep_any (sndL S B (F t)) (sndL S B (offF 3 i (F t))) _ _ w4 HR4.out HR5.out (Nat.le_trans (HSL.out (F t)) (by omega)))
       go_wp2_with fail
       refine (HSA.out).mono ?_
       rintro e w5 ⟨rfl,hb5⟩
       have HB6:=Lib.hid (below_step HB4.out hb5)
       have HW6:=Lib.hid (below_step HW5.out HB6.out)
       have HK6:=Lib.hid (HK5.out.below HB6.out)
       clear hb5 HB4 HR4 HR5 HSA
       by_cases hsm:sndL S B (F t)=sndL S B (offF 3 i (F t))
       case neg =>
         have hno:=HNO2.out (fun q=>hsm (((HSS.out _ _).2 q).symm))
         have HBF:=Lib.hid (show bb=false by
           cases hb:bb with
           | false=>rfl
           | true=>exact absurd (HBB.out.1 hb) hno)
         have d2:decide (sndL S B (F t)=sndL S B (offF 3 i (F t)))=false:=decide_eq_false hsm
         clear hno hsm
         go_wp2
         go_ret
         exact ⟨by rw [HBF.out];rfl,HW6.out⟩
       have HV6:=Lib.hid (HYE2.out (((HSS.out _ _).1 hsm).symm))
       have d2:decide (sndL S B (F t)=sndL S B (offF 3 i (F t)))=true:=decide_eq_true hsm
       clear hsm
       go_wp2
       go_roundw
       case rel=>exact ⟨j+1,by omega,by go_num,by rw [HD5.out],HV6,HW6,HK6⟩
       case measure=>simp [intOf];omega)
  have hje:j=T.length:=by omega
  subst hje
  have hj2:¬ (T.length:Int)<(T.length:Int):=by omega
  have HEND:=Lib.hid (idT_end (B:=B) (F:=F) (k:=3) (i:=i) (T:=T) (fun m hm=>hV.out m hm hm) (bb=true) HBB.out)
  rw [List.take_length]
  clear hj
  go_wp2
  go_ret
  exact ⟨by rw [HEND.out];simp,hW.out⟩
end Go.Proofs.YthhfmppealmblaaGreatDoor
namespace Go.Proofs.YthhfmppealmblaaGreatDoor
open Go.RowKit
structure HvI (base:Nat) (S:Sp) (F:Int→Th→Int) (T:List Int) (ks ss cs:Nat→Value) (lo hh:Nat→Nat) (j:Nat) (v:Value) (A:World):Prop where
 row:A.ownsRow base 70 3 v j ((List.range j).map fun d=>[ks d,ss d,cs d]).flatten
 hd:∀ d,d<j→hh d≤A.heap.size∧(∀ g,v.ownBlock=some g→g<lo d∨hh d≤g)∧∀ W':World,(∀ i,lo d≤i→i<hh d→W'.heap[i]?=A.heap[i]?)→HdRd W' (ks d) (ss d) (cs d) S (F (T.getD d 0))
theorem HvI.start (base:Nat) (S:Sp) (F:Int→Th→Int) (T:List Int) (ks ss cs:Nat→Value) (lo hh:Nat→Nat) (A:World):HvI base S F T ks ss cs lo hh 0 (.slice none 0 0) A:=⟨World.ownsRow_nil _ _ _ _,fun d hd=>absurd hd (Nat.not_lt_zero d)⟩
theorem HvI.later {base:Nat} {S:Sp} {F:Int→Th→Int} {T:List Int} {ks ss cs:Nat→Value} {lo hh:Nat→Nat} {j:Nat} {v:Value} {A A':World} (h:HvI base S F T ks ss cs lo hh j v A) (hb:Below A.heap.size A A'):HvI base S F T ks ss cs lo hh j v A' :=
 ⟨row_later h.row hb,fun d hd=>by
  obtain ⟨h1,h2,h3⟩:=h.hd d hd
  exact ⟨Nat.le_trans h1 hb.size,h2,fun W' hW=>h3 W' fun i hi hi2=>(hW i hi hi2).trans (hb.block i (by omega))⟩⟩
theorem row_lt' {W:World} {base n k:Nat} {t:TypeId} {v:Value} {xs:List Value} (h:W.ownsRow base t k v n xs) {g:Nat} (e:v.ownBlock=some g):g<W.heap.size:=by
 rcases h.2 with ⟨rfl,_⟩ | ⟨g',cap,cur,rfl,_,hgg,_⟩
 ·cases e
 ·have e':g'=g:=Option.some.inj e
  subst e'
  exact (Array.getElem?_eq_some_iff.1 hgg).1
def updN {α:Type} (f:Nat→α) (j:Nat) (x:α):Nat→α:=fun d=>if d=j then x else f d
theorem updN_at {α:Type} (f:Nat→α) (j:Nat) (x:α):updN f j x j=x:=if_pos rfl
theorem updN_ne {α:Type} (f:Nat→α) {j d:Nat} (x:α) (h:d≠j):updN f j x d=f d:=if_neg h
theorem HvI.push {base:Nat} {S:Sp} {F:Int→Th→Int} {T:List Int} {ks ss cs:Nat→Value} {lo hh:Nat→Nat} {j:Nat} {v:Value} {W0:World} (h:HvI base S F T ks ss cs lo hh j v W0) {W2:World} (hb:Below W0.heap.size W0 W2) {vk vs vc:Value} (hn:∀ W':World,(∀ i,W0.heap.size≤i→i<W2.heap.size→W'.heap[i]?=W2.heap[i]?)→HdRd W' vk vs vc S (F (T.getD j 0))) {o:Obj} {W3:World} {g cap:Nat} (hg:(W2.alloc o).grownBy W3 v.ownBlock)
  (hr:W3.ownsRow base 70 3 (.slice (some ⟨g,0,none⟩) (j+1) cap) (j+1) (((List.range j).map fun d=>[ks d,ss d,cs d]).flatten++[vk,vs,vc])) (hat:v.ownBlock=some g∨g=W2.heap.size+1) :
  HvI base S F T (updN ks j vk) (updN ss j vs) (updN cs j vc) (updN lo j W0.heap.size) (updN hh j W2.heap.size) (j+1) (.slice (some ⟨g,0,none⟩) (j+1) cap) W3:=by
 have hsz:=hb.size
 have hsz3:=hg.size
 rw [World.size_alloc] at hsz3
 have hkeep:∀ i,i<W2.heap.size→some i≠v.ownBlock→W3.heap[i]?=W2.heap[i]?:=fun i hi hne =>
  (hg.block i (by rw [World.size_alloc];omega) hne).trans (Below.heap_alloc W2 o i hi)
 refine ⟨?_,fun d hd=>?_⟩
 ·have e:(List.range (j+1)).map (fun d=>[updN ks j vk d,updN ss j vs d,updN cs j vc d])=(List.range j).map (fun d=>[ks d,ss d,cs d])++[[vk,vs,vc]]:=by
   rw [List.range_succ,List.map_append,List.map_cons,List.map_nil,updN_at,updN_at,updN_at]
   congr 1
   refine List.map_congr_left fun d hd=>?_
   have hlt:=List.mem_range.1 hd
   rw [updN_ne _ _ (by omega),updN_ne _ _ (by omega),updN_ne _ _ (by omega)]
  rw [e,List.flatten_append,List.flatten_cons,List.flatten_nil,List.append_nil]
  exact hr
 ·by_cases e:d=j
  ·subst e
   rw [updN_at,updN_at,updN_at,updN_at,updN_at]
   refine ⟨by omega,fun g' hg'=>?_,fun W' hW=>hn W' fun i hi hi2=>(hW i hi hi2).trans (hkeep i hi2 (fun q=>?_))⟩
   ·have e':g=g':=Option.some.inj hg'
    subst e'
    rcases hat with q | q
    ·exact .inl (row_lt' h.row q)
    ·exact .inr (by omega)
   ·have:=row_lt' h.row q.symm
    omega
  ·rw [updN_ne _ _ e,updN_ne _ _ e,updN_ne _ _ e,updN_ne _ _ e,updN_ne _ _ e]
   obtain ⟨h1,h2,h3⟩:=h.hd d (by omega)
   refine ⟨by omega,fun g' hg'=>?_,fun W' hW=>h3 W' fun i hi hi2=>?_⟩
   ·have e':g=g':=Option.some.inj hg'
    subst e'
    rcases hat with q | q
    ·exact h2 _ q
    ·exact .inr (by omega)
   ·refine (hW i hi hi2).trans ((hkeep i (by omega) (fun q=>?_)).trans (hb.block i (by omega)))
    rcases h2 i q.symm with q | q <;> omega
theorem HvI.rd {base:Nat} {S:Sp} {F:Int→Th→Int} {T:List Int} {ks ss cs:Nat→Value} {lo hh:Nat→Nat} {v:Value} {A:World} (h:HvI base S F T ks ss cs lo hh T.length v A):HsR A v S F T ks ss cs :=
 ⟨ARd.of_row (by intro r hr;obtain ⟨d,_,rfl⟩:=List.mem_map.1 hr;rfl) (by rw [List.length_map,List.length_range];exact h.row),fun d hd=>by
  have:=(h.hd d hd).2.2 A (fun _ _ _=>rfl)
  rw [getD_T hd] at this
  exact this⟩
end Go.Proofs.YthhfmppealmblaaGreatDoor
namespace Go.Proofs.YthhfmppealmblaaGreatDoor
open Go.RowKit
theorem hand_info:(Tryz.prog.info? 70).map (fun i=>(i.zero,i.size,i.bytes))=some (some (.agg #[.slice none 0 0,.slice none 0 0,.slice none 0 0]),3,72):=by kernel_rfl
set_option maxRecDepth 100000 in
set_option maxHeartbeats 12800000 in
theorem ridle_any (v1 v2 v3 v4:Value) (S:Sp) (ok:SpOk S) (fp:Nat→Value) (l:List Ev) (vl:Value) (B:(Th→Int)→Pp→Bool) (hB:SndIs S B) (w:World) (hsp:SpRd w v1 v2 v3 v4 fp S) (hlv:ARd w vl 5 (l.map evC)) (hl:l.length≤50000) :
    Calls Tryz.prog 34 #[.agg #[v1,v2,v3,v4],vl] w (IdR S B l w):=by
  obtain ⟨j0,hj0,jz0,jz1,jz2⟩:=info_parts hand_info
  obtain ⟨i0,hi0,hz0,hz1,hz2⟩:=info_parts int64_info
  obtain ⟨_,_,⟨a3,c3,rfl⟩,⟨a4,c4,rfl⟩⟩:=hsp.forms
  have HB0:=Lib.hid (show Below w.heap.size w (w.alloc (.cells #[v1,v2,.slice a3 S.ss.length c3,.slice a4 S.cs.length c4] 27)) from (Below.refl _ w).alloc (Nat.le_refl _) _)
  have B0:=Lib.hid (Blk.new w 27 #[v1,v2,.slice a3 S.ss.length c3,.slice a4 S.cs.length c4])
  have HCK:=Lib.hid (fun (W:World) (hb:Below w.heap.size w W)=>rcheck34_any v1 v2 _ _ S ok fp l vl W (hsp.later hb) (by omega) (hlv.later hb))
  have HTK:=Lib.hid (fun (W:World) (hb:Below w.heap.size w W)=>ticks34_any l vl W (hlv.later hb) hl)
  have HSP:=Lib.hid hsp
  have HLV:=Lib.hid hlv
  have HSB:=Lib.hid hB
  have HOK:=Lib.hid ok
  clear hsp hlv ok hB
  go_enter Tryz.func34,Tryz.ntmps34
  go_wp2_with fail
  refine (HCK.out _ HB0.out).mono ?_
  rintro e W ⟨rfl,hb⟩
  have HB1:=Lib.hid (below_step HB0.out hb)
  have B1:=Lib.hid (B0.out.below hb)
  clear HCK hb B0 HB0
  by_cases hE:audE S l=0
  case neg =>
    have HN:=Lib.hid hE
    obtain ⟨e0,he0⟩:∃ e0,audE S l=e0:=⟨_,rfl⟩
    have HE:=Lib.hid he0
    rw [he0] at hE ⊢
    have q1:(e0==0)=false:=by simpa using hE
    clear he0 hE
    go_wp2
    go_ret3
    exact ⟨_,_,[],[],by rw [HE.out];rfl,World.ownsRow_nil _ _ _ _,World.ownsRow_nil _ _ _ _,fun h=>absurd h HN.out,fun _=>⟨rfl,rfl⟩,HB1.out⟩
  have HE:=Lib.hid hE
  rw [hE]
  obtain ⟨hck,hrk⟩:=audE_parts hE
  have HAS:=Lib.hid (audE_ok hE)
  have hsg:=spGood hck
  have HGD:=Lib.hid hsg
  have hpl:∀ x∈l,Placed x:=fun x hx=>by
    obtain ⟨i,hi,rfl⟩:=List.getElem_of_mem hx
    exact ev_placed HAS.out.sp (HAS.out.at' i hi).2
  have HON:=Lib.hid (fun t=>(HAS.out.on hrk (upN_spec HAS.out.asc t).1).1)
  have HHA:=Lib.hid (fun (t:Int) (W:World) (hb:Below w.heap.size w W)=>hand34_any v1 v2 _ _ S hck fp l vl t W (HSP.out.later hb) (by omega) (HLV.out.later hb) hpl)
  have HCH:=Lib.hid hck
  clear hE hrk hpl hck
  go_wp2_with fail
  refine (HTK.out _ HB1.out).mono ?_
  rintro e W3 ⟨vt,rfl,ht,hb⟩
  have hT:=Lib.hid ht
  have HBW:=Lib.hid (below_step HB1.out hb)
  have HB3:=Lib.hid (B1.out.below hb)
  have HLT:=len_ticksL [] l
  rw [List.length_nil] at HLT
  have HIS:=Lib.hid (idL_on B l 2 S.ss.length)
  have HIC:=Lib.hid (idL_on B l 3 S.cs.length)
  obtain ⟨T,hTn⟩:∃ T,ticksL [] l=T:=⟨_,rfl⟩
  rw [hTn] at hT HLT ht HIS HIC
  have hlT:T.length≤50000:=by omega
  obtain ⟨ta,tc,etv⟩:=ht.rd.intForm
  subst etv
  have HR0:=Lib.hid (Below.refl W3.heap.size W3)
  have HK0:=Lib.hid (HvI.start W3.heap.size S (upF l) T (fun _ => .slice none 0 0) (fun _ => .slice none 0 0) (fun _ => .slice none 0 0) (fun _=>0) (fun _=>0) W3)
  clear ht hb B1 HB1 HTK hTn HLT
  go_wp2
  go_loopw [9,10] (fun v x wr=>∃ (i:Nat) (ks ss cs:Nat→Value) (lo hh:Nat→Nat),i≤T.length∧x = .int .i64 i∧RowKit.Hid (HvI W3.heap.size S (upF l) T ks ss cs lo hh i v wr)∧RowKit.Hid (Below W3.heap.size W3 wr)) (fun _ x _=>T.length-(intOf x).toNat)
  case atStart=>exact ⟨0,_,_,_,_,_,Nat.zero_le _,rfl,HK0,HR0⟩
  clear HR0 HK0
  obtain ⟨i,ks,ss,cs,lo,hh,hi,rfl,hK,hJ⟩:=hrel
  by_cases hil:i<T.length
  · as_aux_lemma =>
    have hi2:(i:Int)<(T.length:Int):=by omega
    obtain ⟨bt,ot,c',ev,hbt,q00⟩:=hT.out.rd.intAt i hil
    cases ev
    have q0:=(hJ.out.cell hbt).trans q00
    have HGT:=Lib.hid (getD_T hil)
    obtain ⟨tk,htk⟩:∃ tk,T[i]=tk:=⟨_,rfl⟩
    rw [htk] at q0 HGT
    have HC1:=Lib.hid (HHA.out tk)
    have HBX:=Lib.hid (below_step HBW.out hJ.out)
    obtain ⟨ak,ck,evk⟩:=row_formN hK.out.row
    subst evk
    obtain ⟨s0,s1,s2,s3⟩:=(HB3.out.below hJ.out).four
    have HQ00:=Lib.hid q00
    rw [htk] at HQ00
    have hdr:=hold5 (W0:=W3) ⟨hJ.out,s0,s1,s2,s3,q0⟩ ((Below.refl _ wr).drew)
    have HN4:=Lib.hid (fun (w3:World) (hb:Below W3.heap.size W3 w3)=>(by
      obtain ⟨e0,e1,e2,e3⟩:=(HB3.out.below hb).four
      exact ⟨hb,e0,e1,e2,e3,(hb.cell hbt).trans HQ00.out⟩:Below W3.heap.size W3 w3∧w3.cell? ⟨w.heap.size,0,none⟩=some v1∧w3.cell? ⟨w.heap.size,1,none⟩=some v2∧w3.cell? ⟨w.heap.size,2,none⟩=some (.slice a3 S.ss.length c3)∧w3.cell? ⟨w.heap.size,3,none⟩=some (.slice a4 S.cs.length c4)∧w3.cell? ⟨bt,ot+i,none⟩=some (.int .i64 tk)))
    clear htk q00
    go_upto_region 9 with fail
    go_region_held3 (fun w'=>Below W3.heap.size W3 w'∧w'.cell? ⟨w.heap.size,0,none⟩=some v1∧w'.cell? ⟨w.heap.size,1,none⟩=some v2∧w'.cell? ⟨w.heap.size,2,none⟩=some (.slice a3 S.ss.length c3)∧w'.cell? ⟨w.heap.size,3,none⟩=some (.slice a4 S.cs.length c4)∧w'.cell? ⟨bt,ot+i,none⟩=some (.int .i64 tk)) (first | exact hdr | exact hn | exact hn3 | exact hn4 | assumption | fail) (first | (go_at_call 52;(with_reducible refine (HC1.out _ (below_step HBW.out hdr.1)).mono ?_);rintro e w2 ⟨vk,vs,vc,rfl,hnew,hb2⟩;have hd2:=hnew w2 (fun _ _ _=>rfl);obtain ⟨⟨x1,y1,rfl⟩,⟨x2,y2,rfl⟩,⟨x3,y3,rfl⟩⟩:=hd2.forms;have hn:=hold5 hdr hb2;have hk1:=hK.out.later ((Below.refl _ wr).drew);have hk2:=hk1.later hb2;have hw2:=hn.1.size;have hn3:=hold5 hn ((Below.refl w2.heap.size w2).alloc (Nat.le_refl _) (.cells #[.slice x1 S.ds.length y1,.slice x2 (onL (upF l tk) 2 S.ss.length).length y2,.slice x3 (onL (upF l tk) 3 S.cs.length).length y3] 70))) | (refine step_append_lies _ rfl _ _ 145 rfl W3.heap.size 70 j0 _ 3 72 Tryz.underlying145 hj0 jz0 jz1 jz2 rfl (by omega) _ _ _ rfl (hk2.row.alloc _) ⟨w2.heap.size,0,none⟩ 1 1 [.slice x1 S.ds.length y1,.slice x2 (onL (upF l tk) 2 S.ss.length).length y2,.slice x3 (onL (upF l tk) 3 S.cs.length).length y3] rfl rfl (World.news_of_block (cs:=#[.slice x1 S.ds.length y1,.slice x2 (onL (upF l tk) 2 S.ss.length).length y2,.slice x3 (onL (upF l tk) 3 S.cs.length).length y3]) (t:=70) (fr:=(0,0)) (heap_alloc_new w2 _)) (by simp [Value.oneCell']) (by omega) (by unfold maxLen;omega) (by omega) (by simp;omega) (w2.heap.size+1) (by simp) ?_;intro gg cap w3 hown hgrow hat hlt;have HP:=Lib.hid (hk1.push hb2 (by rw [HGT.out];exact hnew) hgrow hown hat);have HPB:=Lib.hid (hn3.1.grown hgrow hn3.1.size (fun j e=>row_ge hk2.row e));have hn4:=HN4.out w3 HPB.out) | fail)
    all_goals
      (clear hdr hn hn3 hn4 hk1 hk2 hd2 hnew hw2 hown hgrow hat hlt s0 s1 s2 s3 q0 hK hJ HC1
       go_wp2
       go_roundw
       case rel=>exact ⟨i+1,_,_,_,_,_,by omega,by go_num,HP,HPB⟩
       case measure=>simp [intOf];omega)
  have hi2:¬ (i:Int)<(T.length:Int):=by omega
  have hie:i=T.length:=by omega
  subst hie
  rename World=>W4
  have HBX:=Lib.hid (below_step HBW.out hJ.out)
  have HK4:=Lib.hid (HB3.out.below hJ.out)
  have HHS:=Lib.hid hK.out.rd
  obtain ⟨a8,c8,ev8⟩:=row_formN hK.out.row
  subst ev8
  have HID:=Lib.hid (fun (n:Nat) (hn:n<S.ss.length) (W:World) (hb:Below W4.heap.size W4 W)=>ridleS_any v1 v2 _ _ S HOK.out HCH.out fp B HSB.out _ T (upF l) (fun t _=>HON.out t) n hn ks ss cs W (HSP.out.later (below_step HBX.out hb)) (HHS.out.later hb) hlT (idB B (upF l) 2 T n) idB_iff)
  have HIE:=Lib.hid (fun (n:Nat) (hn:n<S.cs.length) (W:World) (hb:Below W4.heap.size W4 W)=>ridleC_any v1 v2 _ _ S HOK.out HCH.out fp B HSB.out _ T (upF l) (fun t _=>HON.out t) n hn ks ss cs W (HSP.out.later (below_step HBX.out hb)) (HHS.out.later hb) hlT (idB B (upF l) 3 T n) idB_iff)
  obtain ⟨bs,hbs⟩:∃ b,idB B (upF l) 2 T=b:=⟨_,rfl⟩
  obtain ⟨bc,hbc⟩:∃ b,idB B (upF l) 3 T=b:=⟨_,rfl⟩
  rw [hbs] at HID HIS
  rw [hbc] at HIE HIC
  have hss:S.ss.length≤100000:=by have:=HGD.out.ss;omega
  have hcs:S.cs.length≤100000:=by have:=HGD.out.cs;omega
  have HRS:=Lib.hid (show W4.ownsRow W4.heap.size 3 1 (.slice none 0 0) (onI bs 0).length (iCs (onI bs 0)) from World.ownsRow_nil _ _ _ _)
  have HL0:=Lib.hid (Below.refl W4.heap.size W4)
  clear hK hJ hi hbs hbc HHA HB3 hi2
  go_wp2
  go_loopw [11,13] (fun v x wr=>∃ i:Nat,i≤S.ss.length∧x = .int .i64 i∧RowKit.Hid (wr.ownsRow W4.heap.size 3 1 v (onI bs i).length (iCs (onI bs i)))∧RowKit.Hid (Below W4.heap.size W4 wr)) (fun _ x _=>S.ss.length-(intOf x).toNat)
  case atStart=>exact ⟨0,Nat.zero_le _,rfl,HRS,HL0⟩
  clear HRS HL0
  obtain ⟨i,hi,rfl,hrow,hJ⟩:=hrel
  obtain ⟨s0,s1,s2,s3⟩:=(HK4.out.below hJ.out).four
  by_cases hil:i<S.ss.length
  · as_aux_lemma =>
    have hi2:(i:Int)<(S.ss.length:Int):=by omega
    have HC1:=Lib.hid (HID.out i hil wr hJ.out)
    have HS:=Lib.hid (onI_succ bs i)
    have hll:=len_onI bs i
    obtain ⟨L,hL⟩:∃ L,onI bs i=L:=⟨_,rfl⟩
    rw [hL] at hrow HS hll
    obtain ⟨bb,hbb⟩:∃ bb,bs i=bb:=⟨_,rfl⟩
    rw [hbb] at HC1 HS
    clear hL hbb
    go_wp2_with fail
    refine (HC1.out).mono ?_
    rintro e w2 ⟨rfl,hb2⟩
    have HJ2:=Lib.hid (below_step hJ.out hb2)
    have HR2:=Lib.hid (row_later hrow.out hb2)
    have hsz:=HJ2.out.size
    clear hb2 hJ hrow HC1 s0 s1 s2 s3
    cases bb with
    | false =>
      have HS2:=Lib.hid (show onI bs (i+1)=L by rw [HS.out];simp)
      clear HS
      go_wp2
      go_roundw
      case rel=>exact ⟨i+1,by omega,by go_num,by rw [HS2.out];exact HR2,HJ2⟩
      case measure=>simp [intOf];omega
    | true =>
      have HS2:=Lib.hid (show onI bs (i+1)=L++[(i:Int)] by rw [HS.out];simp)
      clear HS
      go_wp2_with (at_builtin;refine wpList_append_lies _ rfl _ _ 68 rfl W4.heap.size 3 i0 _ 1 8 Tryz.underlying68 hi0 hz0 hz1 hz2 rfl (by omega) _ _ _ rfl (HR2.out.alloc _) ⟨w2.heap.size,0,none⟩ 1 1 [.int .i64 i] rfl rfl (World.news_of_block (cs:=#[.int .i64 i]) (t:=3) (fr:=(0,0)) (heap_alloc_new w2 _)) (by simp [Value.oneCell']) (by omega) (by unfold maxLen;omega) (by omega) (by simp;omega) (w2.heap.size+1) (by simp) ?_;intro gg cap w3 hown3 hgrow hat3 hlt3)
      have HR3:=Lib.hid (show w3.ownsRow W4.heap.size 3 1 (.slice (some ⟨gg,0,none⟩) (L.length+1) cap) (L++[(i:Int)]).length (iCs (L++[(i:Int)])) by rw [iCs_snoc,List.length_append,List.length_singleton];exact hown3)
      have HB3:=Lib.hid (push_low HJ2.out HR2.out hgrow)
      clear hown3 hgrow hat3 hlt3
      go_wp2
      go_roundw
      case rel=>exact ⟨i+1,by omega,by go_num,by rw [HS2.out];exact HR3,HB3⟩
      case measure=>simp [intOf];omega
  have hi2:¬ (i:Int)<(S.ss.length:Int):=by omega
  have hie:i=S.ss.length:=by omega
  rename World=>W5
  have HJ5:=Lib.hid hJ.out
  have HK5:=Lib.hid (HK4.out.below hJ.out)
  have HRO:=Lib.hid (show W5.ownsRow W4.heap.size 3 1 u11 (onI bs S.ss.length).length (iCs (onI bs S.ss.length)) by rw [← hie];exact hrow.out)
  have HRS:=Lib.hid (show W5.ownsRow W5.heap.size 3 1 (.slice none 0 0) (onI bc 0).length (iCs (onI bc 0)) from World.ownsRow_nil _ _ _ _)
  have HL0:=Lib.hid (Below.refl W5.heap.size W5)
  clear hrow hJ hie HID
  go_wp2
  go_loopw [12,14] (fun v x wr=>∃ i:Nat,i≤S.cs.length∧x = .int .i64 i∧RowKit.Hid (wr.ownsRow W5.heap.size 3 1 v (onI bc i).length (iCs (onI bc i)))∧RowKit.Hid (Below W5.heap.size W5 wr)) (fun _ x _=>S.cs.length-(intOf x).toNat)
  case atStart=>exact ⟨0,Nat.zero_le _,rfl,HRS,HL0⟩
  clear HRS HL0 s0 s1 s2 s3
  obtain ⟨i,hi,rfl,hrow,hJ⟩:=hrel
  obtain ⟨s0,s1,s2,s3⟩:=(HK5.out.below hJ.out).four
  by_cases hil:i<S.cs.length
  · as_aux_lemma =>
    have hi2:(i:Int)<(S.cs.length:Int):=by omega
    have HC1:=Lib.hid (HIE.out i hil wr (below_step HJ5.out hJ.out))
    have HS:=Lib.hid (onI_succ bc i)
    have hll:=len_onI bc i
    obtain ⟨L,hL⟩:∃ L,onI bc i=L:=⟨_,rfl⟩
    rw [hL] at hrow HS hll
    obtain ⟨bb,hbb⟩:∃ bb,bc i=bb:=⟨_,rfl⟩
    rw [hbb] at HC1 HS
    clear hL hbb
    go_wp2_with fail
    refine (HC1.out).mono ?_
    rintro e w2 ⟨rfl,hb2⟩
    have HJ2:=Lib.hid (below_step hJ.out hb2)
    have HR2:=Lib.hid (row_later hrow.out hb2)
    have hsz:=HJ2.out.size
    clear hb2 hJ hrow HC1 s0 s1 s2 s3
    cases bb with
    | false =>
      have HS2:=Lib.hid (show onI bc (i+1)=L by rw [HS.out];simp)
      clear HS
      go_wp2
      go_roundw
      case rel=>exact ⟨i+1,by omega,by go_num,by rw [HS2.out];exact HR2,HJ2⟩
      case measure=>simp [intOf];omega
    | true =>
      have HS2:=Lib.hid (show onI bc (i+1)=L++[(i:Int)] by rw [HS.out];simp)
      clear HS
      go_wp2_with (at_builtin;refine wpList_append_lies _ rfl _ _ 68 rfl W5.heap.size 3 i0 _ 1 8 Tryz.underlying68 hi0 hz0 hz1 hz2 rfl (by omega) _ _ _ rfl (HR2.out.alloc _) ⟨w2.heap.size,0,none⟩ 1 1 [.int .i64 i] rfl rfl (World.news_of_block (cs:=#[.int .i64 i]) (t:=3) (fr:=(0,0)) (heap_alloc_new w2 _)) (by simp [Value.oneCell']) (by omega) (by unfold maxLen;omega) (by omega) (by simp;omega) (w2.heap.size+1) (by simp) ?_;intro gg cap w3 hown3 hgrow hat3 hlt3)
      have HR3:=Lib.hid (show w3.ownsRow W5.heap.size 3 1 (.slice (some ⟨gg,0,none⟩) (L.length+1) cap) (L++[(i:Int)]).length (iCs (L++[(i:Int)])) by rw [iCs_snoc,List.length_append,List.length_singleton];exact hown3)
      have HB3:=Lib.hid (push_low HJ2.out HR2.out hgrow)
      clear hown3 hgrow hat3 hlt3
      go_wp2
      go_roundw
      case rel=>exact ⟨i+1,by omega,by go_num,by rw [HS2.out];exact HR3,HB3⟩
      case measure=>simp [intOf];omega
  have hi2:¬ (i:Int)<(S.cs.length:Int):=by omega
  have hie:i=S.cs.length:=by omega
  rename World=>W6
  rw [hie] at hrow
  have HRA:=Lib.hid (row_base (row_later HRO.out hJ.out) (HBX.out.size))
  have HRB:=Lib.hid (row_base hrow.out (Nat.le_trans HBX.out.size HJ5.out.size))
  have HBZ:=Lib.hid (below_step HBX.out (below_step HJ5.out hJ.out))
  clear hrow hJ hie hi HRO HIE
  go_wp2
  go_ret3
  exact ⟨_,_,_,_,by rw [HE.out];rfl,HRA.out,HRB.out,fun _=>⟨HIS.out,HIC.out⟩,fun h=>absurd HE.out h,HBZ.out⟩
end Go.Proofs.YthhfmppealmblaaGreatDoor
namespace Go.Proofs.YthhfmppealmblaaGreatDoor
open Go.RowKit
theorem idL_len {B:(Th→Int)→Pp→Bool} {l:List Ev} {k:Int} {n:Nat} {L:List Int} (h:IdL B l k n L):L.length≤n:=by
 rw [h.one (idL_on B l k n)]
 exact len_onI _ _
theorem idR_same {S:Sp} {B:(Th→Int)→Pp→Bool} {l:List Ev} {L M L' M':List Int} (h:audE S l=0→IdL B l 2 S.ss.length L∧IdL B l 3 S.cs.length M) (h0:audE S l≠0→L=[]∧M=[]) (h':audE S l=0→IdL B l 2 S.ss.length L'∧IdL B l 3 S.cs.length M') (h0':audE S l≠0→L'=[]∧M'=[]):L'=L∧M'=M∧L.length≤100000∧M.length≤100000:=by
 by_cases hE:audE S l=0
 ·obtain ⟨hck,_⟩:=audE_parts hE
  have g:=spGood hck
  obtain ⟨a,b⟩:=h hE
  obtain ⟨a',b'⟩:=h' hE
  have h1:=idL_len a
  have h2:=idL_len b
  have h3:=g.ss
  have h4:=g.cs
  exact ⟨a'.one a,b'.one b,by omega,by omega⟩
 ·obtain ⟨rfl,rfl⟩:=h0 hE
  obtain ⟨rfl,rfl⟩:=h0' hE
  exact ⟨rfl,rfl,Nat.zero_le _,Nat.zero_le _⟩
set_option maxRecDepth 100000 in
set_option maxHeartbeats 12800000 in
theorem auditIdles_walk (v1 v2 v3 v4:Value) (S:Sp) (l:List Ev) (vl:Value) (w:World) (t:Tabs w) (f:Nat→Value) (hsp:SpRd w v1 v2 v3 v4 f S) (hlv:ARd w vl 5 (l.map evC)) :
  Calls Tryz.prog 9 #[.agg #[v1,v2,v3,v4],vl] w (BoR true w):=by
 obtain ⟨B,hB⟩:=sndIs_ex S
 obtain ⟨al,cl,evl⟩:=hlv.evForm
 subst evl
 have hal:=(Below.refl _ w).alloc (Nat.le_refl w.heap.size) (.cells #[v1,v2,v3,v4] 27)
 have hk:=Blk.new w 27 #[v1,v2,v3,v4]
 have HGR:=Lib.hid (great_any v1 v2 v3 v4 S f l (.slice al l.length cl) _ (hsp.later hal) (hlv.later hal))
 have HAW:=Lib.hid (fun (W:World) (hb:Below w.heap.size w W)=>awake_any W (t.below hb))
 have HT:=Lib.hid t
 have HAL:=Lib.hid hal
 have HK:=Lib.hid hk
 have HSP:=Lib.hid hsp
 have HLV:=Lib.hid hlv
 have HSB:=Lib.hid hB
 obtain ⟨s0,s1,s2,s3⟩:=hk.four
 clear t hal hk hsp hlv hB
 go_enter Tryz.func9,Tryz.ntmps9
 go_wp2_with fail
 refine (HGR.out).mono ?_
 rintro e W ⟨b,rfl,hb0,hb⟩
 have HB1:=Lib.hid (below_step HAL.out hb)
 have HK1:=Lib.hid (HK.out.below hb)
 clear hb HGR HAL HK s0 s1 s2 s3
 cases b with
 | true =>
  clear hb0
  go_wp2_with fail
  refine (HAW.out _ HB1.out).mono ?_
  rintro e W9 ⟨rfl,hb9⟩
  have HB9:=Lib.hid (below_step HB1.out hb9)
  clear hb9
  go_wp2
  go_ret
  exact ⟨rfl,HB9.out⟩
 | false =>
 have HSM:=Lib.hid (hb0 rfl)
 clear hb0
 have hl50:l.length≤50000:=by have:=HSM.out.len;omega
 have HWA:=Lib.hid (aidle_any v1 v2 v3 v4 S HSM.out.ok f l (.slice al l.length cl) B HSB.out W (HT.out.below HB1.out) (HSP.out.later HB1.out) (HLV.out.later HB1.out) hl50)
 obtain ⟨u0,u1,u2,u3⟩:=HK1.out.four
 go_wp2_with fail
 refine (HWA.out).mono ?_
 rintro e W2 ⟨vs,vc,L,M,rfl,hrs,hrc,hz,hn,hb⟩
 have HB2:=Lib.hid (below_step HB1.out hb)
 have HK2:=Lib.hid (HK1.out.below hb)
 have HRS:=Lib.hid (ARd.of_ints hrs)
 have HRC:=Lib.hid (ARd.of_ints hrc)
 have HZ:=Lib.hid hz
 have HN:=Lib.hid hn
 clear hrs hrc hz hn hb HWA HB1 HK1 u0 u1 u2 u3
 have HWB:=Lib.hid (ridle_any v1 v2 v3 v4 S HSM.out.ok f l (.slice al l.length cl) B HSB.out W2 (HSP.out.later HB2.out) (HLV.out.later HB2.out) hl50)
 obtain ⟨u0,u1,u2,u3⟩:=HK2.out.four
 obtain ⟨e0,he0⟩:∃ e0,audE S l=e0:=⟨_,rfl⟩
 have HE0:=Lib.hid he0
 clear he0
 go_wp2_with fail
 refine (HWB.out).mono ?_
 rintro e W3 ⟨vs',vc',L',M',rfl,hrs,hrc,hz,hn,hb⟩
 obtain ⟨rfl,rfl,hlL,hlM⟩:=idR_same HZ.out HN.out hz hn
 have HB3:=Lib.hid (below_step HB2.out hb)
 have HS1:=Lib.hid (same_ints _ _ _ W3 (HRS.out.later hb) (ARd.of_ints hrs) hlL)
 have HS2:=Lib.hid (fun (W4:World) (h4:Below W3.heap.size W3 W4)=>same_ints _ _ _ W4 ((HRC.out.later hb).later h4) ((ARd.of_ints hrc).later h4) hlM)
 rw [HE0.out]
 clear hrs hrc hz hn hb HWB HB2 HK2 HRS HRC HZ HN u0 u1 u2 u3 hlL hlM
 go_wp2_with fail
 refine (HS1.out).mono ?_
 rintro e W4 ⟨rfl,hb4⟩
 have HB4:=Lib.hid (below_step HB3.out hb4)
 have HS3:=Lib.hid (HS2.out W4 hb4)
 clear hb4 HS1 HS2 HB3
 go_wp2_with fail
 refine (HS3.out).mono ?_
 rintro e W5 ⟨rfl,hb5⟩
 have HB5:=Lib.hid (below_step HB4.out hb5)
 clear hb5 HS3 HB4
 go_wp2_with fail
 refine (HAW.out _ HB5.out).mono ?_
 rintro e W6 ⟨rfl,hb6⟩
 have HB6:=Lib.hid (below_step HB5.out hb6)
 clear hb6
 go_wp2
 go_ret
 exact ⟨rfl,HB6.out⟩
end Go.Proofs.YthhfmppealmblaaGreatDoor
