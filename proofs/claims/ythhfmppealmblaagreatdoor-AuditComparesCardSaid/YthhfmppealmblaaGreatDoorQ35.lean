/-
  A part of the proof: AK2.
-/
import Derived.Test.YthhfmppealmblaaGreatDoorQ19
import Derived.Test.YthhfmppealmblaaGreatDoorQ34
import Derived.Deep.RegionLaw
namespace Go.Proofs.YthhfmppealmblaaGreatDoor
open Go.RowKit
theorem ARd.moAt {w : World} {v : Value} {l : List Mo} (h : ARd w v 3 (l.map moC)) (i : Nat) (hi : i < l.length) : ∃ b o c,v = .slice (some ⟨b,o,none⟩) l.length c∧b < w.heap.size∧w.cell? ⟨b,o + i * 3,none⟩ = some (.int .i64 l[i].1)∧w.cell? ⟨b,o + i * 3 + 1,none⟩ = some l[i].2.1∧w.cell? ⟨b,o + i * 3 + 2,none⟩ = some l[i].2.2:=by
 obtain ⟨b,o,c,e,hlt,hc⟩:=h.at i (by simpa using hi)
 rw [List.getElem_map] at hc
 rw [List.length_map] at e
 exact ⟨b,o,c,e,hlt,hc 0 _ rfl,hc 1 _ rfl,hc 2 _ rfl⟩
theorem faI : (Tryz.prog.info? 52).map (·.size) = some 5:=by kernel_rfl
theorem foThere {W0 W : World} {g cap : Nat} {m : List Fa} (h : FoB W0 g cap m W) {k : Nat} (hk : k < m.length) (j : Nat) (hj : j < 5) : (W.cell? ⟨g,k * 5 + j,none⟩).isSome = true∧W.frozen? ⟨g,k * 5 + j,none⟩ = false:=by
 obtain ⟨⟨a0,a1,a2,a3,a4⟩,⟨f0,f1,f2,f3,f4⟩⟩:=h.at hk
 match j,hj with
 | 0,_ => exact ⟨by rw [Nat.add_zero,a0]; rfl,f0⟩
 | 1,_ => exact ⟨by rw [a1]; rfl,f1⟩
 | 2,_ => exact ⟨by rw [a2]; rfl,f2⟩
 | 3,_ => exact ⟨by rw [a3]; rfl,f3⟩
 | 4,_ => exact ⟨by rw [a4]; rfl,f4⟩
set_option maxRecDepth 100000 in
set_option maxHeartbeats 12800000 in
theorem faults34_any (v1 v2 v3 v4 : Value) (S : Sp) (hc : (checkP S).2 = 0) (fp : Nat→Value) (F C : Int→List Pp) (MM : List Mo) (vl : Value) (w : World) (hsp : SpRd w v1 v2 v3 v4 fp S) (hv : ARd w vl 3 (MM.map moC)) (hF : ∀ x ∈ MM,ARd w x.2.1 2 ((F x.1).map ppC)∧ARd w x.2.2 2 ((C x.1).map ppC)) (hl : MM.length ≤ 1000) (hL : ∀ t,(F t).length ≤ 1000000∧(C t).length ≤ 1000000) (ha : (MM.map (·.1)).Pairwise (· < ·)) :
  Calls Tryz.prog 48 #[.agg #[v1,v2,v3,v4],vl] w (FsR (faAll (fun p t => kdRef (decide (p ∈ F t)) (decide (p ∈ C t))) (allFrom 0 S.rs) (MM.map (·.1))) w):=by
 have hsg:=spGood hc
 obtain ⟨i0,hi0,hz0,hz1,hz2⟩:=info_parts fa_info
 obtain ⟨al,cl,evl⟩:=hv.form
 rw [List.length_map] at evl
 subst evl
 have hal:=allFrom_len hsg.r 0
 have hal2 : (allFrom 0 S.rs).length ≤ 3880:=by have:=hsg.rs; omega
 obtain ⟨KD,hKD⟩ : ∃ K : Pp→Int→Int,(fun p t => kdRef (decide (p ∈ F t)) (decide (p ∈ C t))) = K:=⟨_,rfl⟩
 have HKD:=Lib.hid (show ∀ p t,kdRef (decide (p ∈ F t)) (decide (p ∈ C t)) = KD p t from fun p t => by rw [← hKD])
 obtain ⟨ts,hts⟩ : ∃ ts,MM.map (·.1) = ts:=⟨_,rfl⟩
 have HTS:=Lib.hid hts
 have hB:=(show Below w.heap.size w (w.alloc (.cells #[v1,v2,v3,v4] 27)) from (Below.refl _ w).alloc (Nat.le_refl _) _)
 have HB:=Lib.hid hB
 have B0:=Lib.hid (Blk.new w 27 #[v1,v2,v3,v4])
 have HALL:=Lib.hid (rall_any v1 v2 v3 v4 S _ fp (hsp.later hB) hsg.rs hsg.r)
 have HV:=Lib.hid hv
 have HF:=Lib.hid hF
 have HL:=Lib.hid hL
 have HA:=Lib.hid ha
 have HE:=Lib.hid (show ∀ i,(faAll KD ((allFrom 0 S.rs).take i) ts).length ≤ 4000000 from fun i => by
  have h1:=faAll_len KD ts ((allFrom 0 S.rs).take i)
  have h2 : ((allFrom 0 S.rs).take i).length ≤ 3880:=by rw [List.length_take]; omega
  have h3 : ts.length ≤ 1000:=by rw [← hts,List.length_map]; exact hl
  have h4 : ((allFrom 0 S.rs).take i).length * ts.length ≤ 3880 * 1000:=Nat.mul_le_mul h2 h3
  omega)
 have HORD:=Lib.hid (show (faAll KD (allFrom 0 S.rs) ts).Pairwise faOrd from faAll_ord (by rw [← hts]; exact ha) (asc_allFrom 0 S.rs))
 rw [hKD,hts]
 obtain ⟨y0,y1,y2,y3⟩:=B0.out.four
 clear hsg hKD hts hsp hv hF hL ha hB hal hc
 go_enter Tryz.func48,Tryz.ntmps48
 go_wp2_with fail
 refine (HALL.out).mono ?_
 rintro e W1 ⟨va,rfl,hown,hb1⟩
 obtain ⟨aa,ca,eva⟩:=(ARd.of_pps hown).form
 rw [List.length_map] at eva
 subst eva
 have HAL:=Lib.hid (ARd.of_pps hown)
 have HBW:=Lib.hid (below_step HB.out hb1)
 have HR0:=Lib.hid (show W1.ownsRow W1.heap.size 52 5 (.slice none 0 0) (faAll KD ((allFrom 0 S.rs).take 0) ts).length (faCs (faAll KD ((allFrom 0 S.rs).take 0) ts)) from World.ownsRow_nil _ _ _ _)
 have HB0:=Lib.hid (Below.refl W1.heap.size W1)
 clear HALL hown hb1 y0 y1 y2 y3 B0 HB
 go_wp2
 go_loopw [7,8] (fun v x wr => ∃ i : Nat,i ≤ (allFrom 0 S.rs).length∧x = .int .i64 i∧RowKit.Hid (wr.ownsRow W1.heap.size 52 5 v (faAll KD ((allFrom 0 S.rs).take i) ts).length (faCs (faAll KD ((allFrom 0 S.rs).take i) ts)))∧RowKit.Hid (Below W1.heap.size W1 wr)) (fun _ x _ => (allFrom 0 S.rs).length - (intOf x).toNat)
 case atStart => exact ⟨0,Nat.zero_le _,rfl,HR0,HB0⟩
 clear HR0 HB0
 obtain ⟨i,hi,rfl,hrow,hB⟩:=hrel
 by_cases hin : i < (allFrom 0 S.rs).length
 ·have hi2 : (i : Int) < ((allFrom 0 S.rs).length : Int):=by omega
  obtain ⟨ba,oa,c',ev,hba,qa0,qa1⟩:=HAL.out.ppAt i hin
  cases ev
  have HTK:=Lib.hid (faAll_take KD ts hin)
  have hTl:=HE.out (i + 1)
  rw [HTK.out] at hTl
  obtain ⟨p,hp⟩ : ∃ p,(allFrom 0 S.rs)[i] = p:=⟨_,rfl⟩
  rw [hp] at qa0 qa1 HTK hTl
  have HQ0:=Lib.hid qa0
  have HQ1:=Lib.hid qa1
  obtain ⟨O0,hO0⟩ : ∃ O,faAll KD ((allFrom 0 S.rs).take i) ts = O:=⟨_,rfl⟩
  rw [hO0] at HTK hrow hTl
  have HRF:=Lib.hid (RfI.start p (KD p) O0 ts)
  clear hp qa0 qa1 hO0
  go_wp2
  go_loopw [7,9,10] (fun v u x wr => ∃ (k : Nat) (was : Int) (O : List Fa),k ≤ MM.length∧u = .int .i64 was∧x = .int .i64 k∧RowKit.Hid (RfI p (KD p) was O (ts.drop k) (O0 ++ mkF p (flt (KD p) 0 ts)))∧RowKit.Hid (wr.ownsRow W1.heap.size 52 5 v O.length (faCs O))∧RowKit.Hid (Below W1.heap.size W1 wr)) (fun _ _ x _ => MM.length - (intOf x).toNat)
  case atStart => exact ⟨0,0,O0,Nat.zero_le _,rfl,rfl,HRF,hrow,hB⟩
  clear hrow hB HRF
  obtain ⟨k,was,O,hk,rfl,rfl,hI,hrow,hB⟩:=hrel
  by_cases hkl : k < MM.length
  ·have hk2 : (k : Int) < (MM.length : Int):=by omega
   have hkt : k < ts.length:=by rw [← HTS.out,List.length_map]; exact hkl
   have hI2:=hI.out
   rw [List.drop_eq_getElem_cons hkt] at hI2
   have hol:=hI2.len
   have htk : ts[k] = MM[k].1:=by simp only [← HTS.out,List.getElem_map]
   rw [htk] at hI2
   have hm:=HF.out MM[k] (List.getElem_mem hkl)
   have hb2:=below_step HBW.out hB.out
   obtain ⟨bm,om,c',ev,hbm,m0,m1,m2⟩:=HV.out.moAt k hkl
   cases ev
   obtain ⟨x,hx⟩ : ∃ x,MM[k] = x:=⟨_,rfl⟩
   rw [hx] at hI2 hm m0 m1 m2
   obtain ⟨t,vs,vd⟩:=x
   simp only at hI2 hm m0 m1 m2
   have HM0:=Lib.hid m0
   replace m0:=(hb2.cell hbm).trans m0
   replace m1:=(hb2.cell hbm).trans m1
   replace m2:=(hb2.cell hbm).trans m2
   have q0:=(hB.out.cell hba).trans HQ0.out
   have q1:=(hB.out.cell hba).trans HQ1.out
   obtain ⟨now,hnow⟩ : ∃ n,KD p t = n:=⟨_,rfl⟩
   have HCA:=Lib.hid (fun (w' : World) (h : Below wr.heap.size wr w') => (kind_any t vs vd (F t) (C t) p w' ((hm.1.later hb2).later h) (HL.out t).1 ((hm.2.later hb2).later h) (HL.out t).2))
   rw [HKD.out,hnow] at HCA
   have HI2:=Lib.hid hI2
   have HNW:=Lib.hid hnow
   have hdr:=hold5 (W0:=wr) ⟨Below.refl _ wr,m0,m1,m2,q0,q1⟩ ((Below.refl _ wr).drew)
   clear hI hI2 hx hm hb2 htk hnow
   go_wp2_with fail
   go_region_held3 (fun w' => Below wr.heap.size wr w'∧w'.cell? ⟨bm,om + k * 3,none⟩ = some (.int .i64 t)∧w'.cell? ⟨bm,om + k * 3 + 1,none⟩ = some vs∧w'.cell? ⟨bm,om + k * 3 + 2,none⟩ = some vd∧w'.cell? ⟨ba,oa + i * 2,none⟩ = some (.int .i64 p.1)∧w'.cell? ⟨ba,oa + i * 2 + 1,none⟩ = some (.int .i64 p.2)) (first | exact hdr | assumption) (first | (go_at_call 75; (with_reducible refine (HCA.out _ hdr.1).mono ?_); rintro e w2 ⟨rfl,hb2⟩; have hn:=hold5 hdr hb2; clear hb2))
   obtain ⟨hb3,n0,n1,n2,n3,n4⟩:=hn
   have HRN:=Lib.hid (row_later hrow.out hb3)
   have HBN:=Lib.hid (below_step hB.out hb3)
   clear hdr HCA hrow hB m0 m1 m2 q0 q1 hb3
   by_cases hsame : now = was
   ·have HN:=Lib.hid (HI2.out.same (by rw [HNW.out]; exact hsame))
    have e1 : ((now : Int) == was) = true:=by rw [hsame]; exact beq_self_eq_true _
    clear hsame
    go_wp2
    go_roundw
    case rel => exact ⟨k + 1,was,O,by omega,rfl,by go_num,HN,HRN,HBN⟩
    case measure => simp [intOf]; omega
   ·have HN:=Lib.hid (HI2.out.step (by rw [HNW.out]; exact hsame))
    rw [HNW.out] at HN
    have e1 : ((now : Int) == was) = false:=by rw [beq_eq_false_iff_ne]; exact hsame
    have hsz:=HBN.out.size
    have HNE:=Lib.hid HI2.out.ne
    by_cases hw0 : was = 0
    ·have hn0 : now ≠ 0:=fun q => hsame (by rw [q,hw0])
     have e3 : (now == 0) = false:=by rw [beq_eq_false_iff_ne]; exact hn0
     rw [if_neg (fun q => q hw0),if_pos hn0] at HN
     subst hw0
     have HPL:=Lib.hid (fun (o : Obj) (w3 : World) (hg : (w2.alloc o).grownBy w3 u7.ownBlock) => push_low HBN.out HRN.out hg)
     clear hsame hn0 HI2 HNE
     go_wp2_with fail
     go_region_law ((refine step_append_lies _ rfl _ _ 32 rfl W1.heap.size 52 i0 _ 5 40 Tryz.underlying32 hi0 hz0 hz1 hz2 rfl (by omega) _ _ _ rfl (HRN.out.alloc _) ⟨w2.heap.size,0,none⟩ 1 1 [.int .i64 now,.int .i64 p.1,.int .i64 p.2,.int .i64 t,.int .i64 (-1)] rfl rfl (World.news_of_block (cs:=#[.int .i64 now,.int .i64 p.1,.int .i64 p.2,.int .i64 t,.int .i64 (-1)]) (t:=52) (fr:=(0,0)) (heap_alloc_new w2 _)) (by simp [Value.oneCell']) (by omega) (by unfold maxLen; omega) (by omega) (by simp; omega) (w2.heap.size + 1) (by simp) ?_; intro gg cap3 w3 hown3 hgrow hat3 hlt3; have HP3:=Lib.hid hown3; have HB3:=Lib.hid (HPL.out _ _ ⟨hgrow.os,hgrow.tape,hgrow.output,hgrow.size,hgrow.block⟩)))
     all_goals
      clear hown3 hgrow hat3 hlt3
      have HP4:=Lib.hid (fas_step (l:=O) (k:=now) (p:=p) (a:=t) (b:=-1) HP3.out rfl)
      go_wp2
      go_roundw
      case rel => exact ⟨k + 1,now,_,by omega,rfl,by go_num,HN,by have:=HP4.out; simpa only [List.length_append] using Lib.hid this,HB3⟩
      case measure => simp [intOf]; omega
    ·have hne:=HNE.out hw0
     have e3 : (was == 0) = false:=by rw [beq_eq_false_iff_ne]; exact hw0
     obtain ⟨g,cap,ev,hcm,hFo⟩:=FoB.of HRN.out HBN.out hne
     subst ev
     have hpos:=List.length_pos_iff.2 hne
     have hk9 : O.length - 1 < O.length:=by omega
     obtain ⟨⟨_,_,_,_,c4⟩,⟨_,_,_,_,f4⟩⟩:=hFo.at hk9
     have HF5:=Lib.hid (hFo.setTo hne t)
     have HO5:=Lib.hid (show (w2.setCell ⟨g,(O.length - 1) * 5 + 4,none⟩ (.int .i64 t)).ownsRow W1.heap.size 52 5 (.slice (some ⟨g,0,none⟩) O.length cap) (setTo O t).length (faCs (setTo O t)) by have h9:=HF5.out.owns hcm; rw [setTo_len] at h9 ⊢; exact h9)
     have HB5:=Lib.hid HF5.out.b
     have e5 : IntKind.i64.wrap ((O.length : Int) - 1) = ((O.length - 1 : Nat) : Int):=by rw [IntWalk.i64_in _ (by omega)]; omega
     have e6 : ((O.length - 1 : Nat) : Int) < (O.length : Int):=by omega
     rw [if_pos hw0] at HN
     clear hne HI2 HNE HF5 hFo HRN HBN
     by_cases hn0 : now = 0
     ·rw [if_neg (fun q => q hn0),List.append_nil] at HN
      subst hn0
      go_wp2
      go_roundw
      case rel => exact ⟨k + 1,0,_,by omega,rfl,by go_num,HN,HO5,HB5⟩
      case measure => simp [intOf]; omega
     ·rw [if_pos hn0] at HN
      have e7 : (now == 0) = false:=by rw [beq_eq_false_iff_ne]; exact hn0
      go_upto_region 15 with fail
      have hl5 : (setTo O t).length = O.length:=setTo_len O t
      have q0:=(HB5.out.cell hba).trans HQ0.out
      have q1:=(HB5.out.cell hba).trans HQ1.out
      have m0:=((below_step HBW.out HB5.out).cell hbm).trans HM0.out
      have hsz5:=HB5.out.size
      generalize w2.setCell ⟨g,(O.length - 1) * 5 + 4,none⟩ (.int .i64 t) = W5 at *
      generalize Value.slice (some ⟨g,0,none⟩) O.length cap = V at *
      have HPL:=Lib.hid (fun (o : Obj) (w3 : World) (hg : (W5.alloc o).grownBy w3 V.ownBlock) => push_low HB5.out HO5.out hg)
      clear n0 n1 n2 n3 n4 c4 f4 e5 e6
      go_region_law ((refine step_append_lies _ rfl _ _ 32 rfl W1.heap.size 52 i0 _ 5 40 Tryz.underlying32 hi0 hz0 hz1 hz2 rfl (by omega) _ _ _ rfl (HO5.out.alloc _) ⟨W5.heap.size,0,none⟩ 1 1 [.int .i64 now,.int .i64 p.1,.int .i64 p.2,.int .i64 t,.int .i64 (-1)] rfl rfl (World.news_of_block (cs:=#[.int .i64 now,.int .i64 p.1,.int .i64 p.2,.int .i64 t,.int .i64 (-1)]) (t:=52) (fr:=(0,0)) (heap_alloc_new W5 _)) (by simp [Value.oneCell']) (by omega) (by unfold maxLen; omega) (by omega) (by simp; omega) (W5.heap.size + 1) (by simp) ?_; intro gg cap3 w3 hown3 hgrow hat3 hlt3; have HP3:=Lib.hid hown3; have HB3:=Lib.hid (HPL.out _ _ ⟨hgrow.os,hgrow.tape,hgrow.output,hgrow.size,hgrow.block⟩)))
      all_goals
       clear hown3 hgrow hat3 hlt3
       have HP4:=Lib.hid (fas_step (l:=setTo O t) (k:=now) (p:=p) (a:=t) (b:=-1) HP3.out rfl)
       go_wp2
       go_roundw
       case rel => exact ⟨k + 1,now,_,by omega,rfl,by go_num,HN,by have:=HP4.out; simpa only [List.length_append,hl5] using Lib.hid this,HB3⟩
       case measure => simp [intOf]; omega
  ·have hk2 : ¬ (k : Int) < (MM.length : Int):=by omega
   have hke : k = ts.length:=by rw [← HTS.out,List.length_map]; omega
   have hI2:=hI.out
   rw [hke,List.drop_length] at hI2
   have he:=hI2.end
   rw [← HTK.out] at he
   rw [he] at hrow
   clear hke hI hI2 he
   go_wp2
   go_roundw
   case rel => exact ⟨i + 1,by omega,by go_num,hrow,hB⟩
   case measure => simp [intOf]; omega
 ·have hi2 : ¬ (i : Int) < ((allFrom 0 S.rs).length : Int):=by omega
  have hie : i = (allFrom 0 S.rs).length:=by omega
  rw [hie,List.take_length] at hrow
  have hEl:=HE.out (allFrom 0 S.rs).length
  rw [List.take_length] at hEl
  obtain ⟨E,hE⟩ : ∃ E,faAll KD (allFrom 0 S.rs) ts = E:=⟨_,rfl⟩
  rw [hE] at hrow hEl
  have HOR:=Lib.hid (show E.Pairwise faOrd by rw [← hE]; exact HORD.out)
  have HEE:=Lib.hid hE
  obtain ⟨n,hn⟩ : ∃ n,E.length = n:=⟨_,rfl⟩
  rw [hn] at hEl hrow
  have HNL:=Lib.hid hn
  clear hie hE hn HORD HE
  obtain ⟨a7,c7,e7⟩ : ∃ a c,u7 = Value.slice a n c:=by
   rcases hrow.out.2 with ⟨e1,e2⟩ | ⟨g,cap,cur,e1,_⟩
   ·exact ⟨_,_,by rw [e1,e2]⟩
   ·exact ⟨_,_,e1⟩
  subst e7
  by_cases hbig : 20000 < n
  ·have hb2 : (20000 : Int) < (n : Int):=by omega
   go_wp2
   go_ret2
   exact ⟨_,[],5,rfl,World.ownsRow_nil _ _ _ _,.inl ⟨by rw [HEE.out,HNL.out]; exact hbig,rfl,rfl⟩,below_step HBW.out hB.out⟩
  ·have hb2 : ¬ (20000 : Int) < (n : Int):=by omega
   have HU:=Lib.hid (UpF.one E)
   go_wp2
   go_loopw [12] (fun x wr => ∃ (i : Nat) (m : List Fa),1 ≤ i∧i ≤ n + 1∧x = .int .i64 i∧RowKit.Hid (UpF E i m)∧RowKit.Hid (wr.ownsRow W1.heap.size 52 5 (.slice a7 n c7) n (faCs m))∧RowKit.Hid (Below W1.heap.size W1 wr)) (fun x _ => n + 1 - (intOf x).toNat)
   case atStart => exact ⟨1,E,Nat.le_refl 1,by omega,rfl,HU,hrow,hB⟩
   clear hrow hB HU hi hi2 hin
   obtain ⟨ii,m,hi1,hi,rfl,hU,hrow,hB⟩:=hrel
   have hml : m.length = n:=hU.out.perm.length_eq.trans HNL.out
   by_cases hin : ii < n
   ·have hi2 : (ii : Int) < (n : Int):=by omega
    have hne : m ≠ []:=by intro q; rw [q] at hml; simp at hml; omega
    obtain ⟨g,cap,ev,hcm,hFo⟩:=FoB.of (m:=m) (by rw [hml]; exact hrow.out) hB.out hne
    rw [hml] at ev
    injection ev with ev1 ev2 ev3
    subst ev1 ev3
    have HF:=Lib.hid hFo
    have HSW:=Lib.hid (hU.out.start (by omega) HOR.out)
    have HCM:=Lib.hid hcm
    clear hFo hrow hB hne hU hcm
    go_wp2
    go_loopw [13] (fun x wr => ∃ (k : Nat) (m : List Fa),k ≤ ii∧x = .int .i64 k∧RowKit.Hid (FoB W1 g c7 m wr)∧RowKit.Hid (SwpF E ii k m)) (fun x _ => (intOf x).toNat)
    case atStart => exact ⟨ii,m,Nat.le_refl ii,rfl,HF,HSW⟩
    clear HF HSW hml
    obtain ⟨k,m,hki,rfl,hF,hSW⟩:=hrel
    have hml : m.length = n:=hSW.out.perm.length_eq.trans HNL.out
    have HFIN:=Lib.hid (fun (h : UpF E (ii + 1) m) (W' : World) (hF' : FoB W1 g c7 m W') => (show RowKit.Hid (UpF E (ii + 1) m)∧RowKit.Hid (W'.ownsRow W1.heap.size 52 5 (.slice (some ⟨g,0,none⟩) n c7) n (faCs m))∧RowKit.Hid (Below W1.heap.size W1 W') from ⟨Lib.hid h,Lib.hid (by have:=hF'.owns HCM.out; rwa [hml] at this),Lib.hid hF'.b⟩))
    by_cases hk0 : k = 0
    ·subst hk0
     have HU:=Lib.hid (hSW.out.end (.inl rfl))
     go_wp2_with fail
     go_quiet (fail)
     have HZ:=HFIN.out HU.out _ (hF.out.low (below_drewN (Below.refl _ wr) nq))
     clear HFIN
     go_wp2
     go_roundw
     case rel => exact ⟨ii + 1,m,by omega,by omega,by go_num,HZ⟩
     case measure => simp [intOf]; omega
    ·obtain ⟨q,rfl⟩ : ∃ q,k = q + 1:=⟨k - 1,by omega⟩
     have hkm : q + 1 < m.length:=by omega
     have hqm : q < m.length:=by omega
     obtain ⟨⟨a0,a1,a2,a3,a4⟩,⟨f0,f1,f2,f3,f4⟩⟩:=hF.out.at hkm
     obtain ⟨⟨b0,b1,b2,b3,b4⟩,⟨g0,g1,g2,g3,g4⟩⟩:=hF.out.at hqm
     have HEND:=Lib.hid (fun (h : ¬ m[q + 1].2.2.1 < m[q].2.2.1) => hSW.out.end (.inr ⟨hkm,hqm,h⟩))
     have HSTP:=Lib.hid (fun (h : m[q + 1].2.2.1 < m[q].2.2.1) => hSW.out.step (Nat.succ_pos q) hkm hqm h)
     have hsw:=swapF_is hkm (show q + 1 - 1 < m.length from hqm)
     have HPUT:=Lib.hid (fun (W' : World) (h : FoB W1 g c7 m W') => (h.put hqm m[q + 1]).put (by rw [List.length_set]; exact hkm) m[q])
     rw [List.set_comm _ _ (by omega)] at hsw
     simp only [Nat.add_sub_cancel] at hsw
     rw [hsw] at HPUT
     obtain ⟨x,hx⟩ : ∃ x,m[q + 1] = x:=⟨_,rfl⟩
     obtain ⟨y,hy⟩ : ∃ y,m[q] = y:=⟨_,rfl⟩
     rw [hx] at a0 a1 a2 a3 a4 HEND HSTP HPUT
     rw [hy] at b0 b1 b2 b3 b4 HEND HSTP HPUT
     have e5 : IntKind.i64.wrap (q : Int) = (q : Int):=IntWalk.i64_in _ (by omega)
     have e6 : (0 : Int) ≤ (q : Int) + 1:=by omega
     have e7 : ((q : Int) + 1).toNat = q + 1:=by omega
     have e8 : (q : Int) + 1 < (n : Int):=by omega
     have e9 : (0 : Int) < (q : Int) + 1:=by omega
     have e10 : (q : Int) < (n : Int):=by omega
     have hdl : m.length = n:=hml
     have HX:=Lib.hid hx
     have HY:=Lib.hid hy
     rw [hx,hy] at hsw
     have HSWP:=Lib.hid hsw
     clear hx hy hsw hml
     by_cases hlt : x.2.2.1 < y.2.2.1
     ·have HN:=Lib.hid (HSTP.out hlt)
      clear HEND HSTP HFIN
      go_wp2_with fail
      go_quiet (fail)
      have HF6:=Lib.hid (hF.out.low (below_drewN (Below.refl _ wr) nq))
      obtain ⟨W6,hW6⟩ : ∃ W6,wr.drewN nq = W6:=⟨_,rfl⟩
      rw [hW6] at HF6 ⊢
      clear hW6 a0 a1 a2 a3 a4 b0 b1 b2 b3 b4 f0 f1 f2 f3 f4 g0 g1 g2 g3 g4 hF
      obtain ⟨⟨a0,a1,a2,a3,a4⟩,⟨f0,f1,f2,f3,f4⟩⟩:=HF6.out.at hkm
      obtain ⟨⟨b0,b1,b2,b3,b4⟩,⟨g0,g1,g2,g3,g4⟩⟩:=HF6.out.at hqm
      rw [HX.out] at a0 a1 a2 a3 a4
      rw [HY.out] at b0 b1 b2 b3 b4
      clear HPUT
      go_wp2_with fail
      have HSW:=Lib.hid (fun (W' : World) (h : FoB W1 g c7 ((m.set q x).set (q + 1) y) W') => (show FoB W1 g c7 (swapF m (q + 1)) W' by rw [← HSWP.out]; exact h))
      have HMID:=Lib.hid (show ∀ w w' : World,FoB W1 g c7 (m.set q x) w→Below w.heap.size w w'→FoB W1 g c7 (m.set q x) w' from fun _ _ h hb => h.low hb)
      have hmxx : Tryz.prog.follows .mixedOrders = true:=by kernel_rfl
      refine wp_normal (wp_region_flowJ (fun xX => { tmps:=#[.agg #[v1,v2,v3,v4],.slice al MM.length cl,.pointer (some ⟨w.heap.size,0,none⟩),undef,.slice none 0 0,.int .i64 0,.slice aa (allFrom 0 S.rs).length ca,.slice (some ⟨g,0,none⟩) n c7,.int .i64 (i : Int),u9,u10,u11,.int .i64 (ii : Int),.int .i64 ((q : Int) + 1),.agg #[v1,v2,v3,v4],.slice aa (allFrom 0 S.rs).length ca,.int .i64 (i : Int),.slice aa (allFrom 0 S.rs).length ca,.int .i64 ((allFrom 0 S.rs).length : Int),.bool false,u20,u21,u22,u23,u24,u25,u26,u27,u28,u29,u30,u31,u32,u33,u34,u35,u36,u37,u38,u39,u40,u41,u42,u43,u44,u45,u46,u47,u48,u49,u50,u51,u52,u53,u54,u55,u56,u57,u58,u59,u60,u61,u62,u63,u64,u65,u66,u67,u68,u69,.slice (some ⟨g,0,none⟩) n c7,.int .i64 (n : Int),.bool false,.int .i64 (ii : Int),.slice (some ⟨g,0,none⟩) n c7,.int .i64 (n : Int),.bool true,u77,u78,.int .i64 (ii : Int),.int .i64 ((q : Int) + 1),.bool true,.bool true,.slice (some ⟨g,0,none⟩) n c7,.int .i64 ((q : Int) + 1),.int .i64 (q : Int),.pointer (some ⟨g,q * 5,none⟩),.pointer (some ⟨g,q * 5 + 3,none⟩),.int .i64 y.snd.snd.fst,.slice (some ⟨g,0,none⟩) n c7,.int .i64 ((q : Int) + 1),.pointer (some ⟨g,(q + 1) * 5,none⟩),.pointer (some ⟨g,(q + 1) * 5 + 3,none⟩),.int .i64 x.snd.snd.fst,.bool true,.bool true,u96,u97,(xX 98),(xX 99),(xX 100),(xX 101),(xX 102),(xX 103),(xX 104),(xX 105),(xX 106),(xX 107),(xX 108),(xX 109),(xX 110),(xX 111),(xX 112),(xX 113),undef],defers:=[] }) (fun iI v z => match iI with
       | 0 => v = .slice (some ⟨g,0,none⟩) n c7
       | 1 => v = .int .i64 ((q + 1 : Nat) : Int)
       | 2 => v = .int .i64 (q : Int)
       | 3 => v = .slice (some ⟨g,0,none⟩) n c7
       | 4 => v = .int .i64 ((q + 1 : Nat) : Int)
       | 5 => v = .slice (some ⟨g,0,none⟩) n c7
       | 6 => v = .int .i64 ((q + 1 : Nat) : Int)
       | 7 => v = .pointer (some ⟨g,(q + 1) * 5,none⟩)
       | 8 => v = .agg #[.int .i64 x.1,.int .i64 x.2.1.1,.int .i64 x.2.1.2,.int .i64 x.2.2.1,.int .i64 x.2.2.2]
       | 9 => v = .slice (some ⟨g,0,none⟩) n c7
       | 10 => v = .int .i64 ((q + 1 : Nat) : Int)
       | 11 => v = .int .i64 (q : Int)
       | 12 => v = .pointer (some ⟨g,q * 5,none⟩)
       | 13 => v = .agg #[.int .i64 y.1,.int .i64 y.2.1.1,.int .i64 y.2.1.2,.int .i64 y.2.2.1,.int .i64 y.2.2.2]
       | 14 => v = .pointer (some ⟨g,q * 5,none⟩)
       | 15 => True
       | 16 => v = .pointer (some ⟨g,(q + 1) * 5,none⟩)
       | 17 => True
       | _ => True) (JB 15 17 W6 (FoB W1 g c7 (m.set q x)) (FoB W1 g c7 (swapF m (q + 1)))) (fun n => (#[.agg #[v1,v2,v3,v4],.slice al MM.length cl,.pointer (some ⟨w.heap.size,0,none⟩),undef,.slice none 0 0,.int .i64 0,.slice aa (allFrom 0 S.rs).length ca,.slice (some ⟨g,0,none⟩) n c7,.int .i64 (i : Int),u9,u10,u11,.int .i64 (ii : Int),.int .i64 ((q : Int) + 1),.agg #[v1,v2,v3,v4],.slice aa (allFrom 0 S.rs).length ca,.int .i64 (i : Int),.slice aa (allFrom 0 S.rs).length ca,.int .i64 ((allFrom 0 S.rs).length : Int),.bool false,u20,u21,u22,u23,u24,u25,u26,u27,u28,u29,u30,u31,u32,u33,u34,u35,u36,u37,u38,u39,u40,u41,u42,u43,u44,u45,u46,u47,u48,u49,u50,u51,u52,u53,u54,u55,u56,u57,u58,u59,u60,u61,u62,u63,u64,u65,u66,u67,u68,u69,.slice (some ⟨g,0,none⟩) n c7,.int .i64 (n : Int),.bool false,.int .i64 (ii : Int),.slice (some ⟨g,0,none⟩) n c7,.int .i64 (n : Int),.bool true,u77,u78,.int .i64 (ii : Int),.int .i64 ((q : Int) + 1),.bool true,.bool true,.slice (some ⟨g,0,none⟩) n c7,.int .i64 ((q : Int) + 1),.int .i64 (q : Int),.pointer (some ⟨g,q * 5,none⟩),.pointer (some ⟨g,q * 5 + 3,none⟩),.int .i64 y.snd.snd.fst,.slice (some ⟨g,0,none⟩) n c7,.int .i64 ((q : Int) + 1),.pointer (some ⟨g,(q + 1) * 5,none⟩),.pointer (some ⟨g,(q + 1) * 5 + 3,none⟩),.int .i64 x.snd.snd.fst,.bool true,.bool true,u96,u97,u98,u99,u100,u101,u102,u103,u104,u105,u106,u107,u108,u109,u110,u111,u112,u113,undef] : Array Value).getD n undef) rfl hmxx (by kernel_rfl) (by kernel_rfl) (jb_start (of_decide_eq_true (by kernel_rfl)) (of_decide_eq_true (by kernel_rfl))) (fun ℓ ℓ' xX w h hj => jb_cong (of_decide_eq_true (by kernel_rfl)) (of_decide_eq_true (by kernel_rfl)) ℓ ℓ' xX w h hj) ?put ?step ?done)
      case put =>
       intro iI oO dD ho hd xX vV
       match iI,ho with
       | 0,ho => obtain rfl:=Option.some.inj (show some _ = some oO from ho); obtain rfl:=Option.some.inj (show some _ = some dD from hd); rfl
       | 1,ho => obtain rfl:=Option.some.inj (show some _ = some oO from ho); obtain rfl:=Option.some.inj (show some _ = some dD from hd); rfl
       | 2,ho => obtain rfl:=Option.some.inj (show some _ = some oO from ho); obtain rfl:=Option.some.inj (show some _ = some dD from hd); rfl
       | 3,ho => obtain rfl:=Option.some.inj (show some _ = some oO from ho); obtain rfl:=Option.some.inj (show some _ = some dD from hd); rfl
       | 4,ho => obtain rfl:=Option.some.inj (show some _ = some oO from ho); obtain rfl:=Option.some.inj (show some _ = some dD from hd); rfl
       | 5,ho => obtain rfl:=Option.some.inj (show some _ = some oO from ho); obtain rfl:=Option.some.inj (show some _ = some dD from hd); rfl
       | 6,ho => obtain rfl:=Option.some.inj (show some _ = some oO from ho); obtain rfl:=Option.some.inj (show some _ = some dD from hd); rfl
       | 7,ho => obtain rfl:=Option.some.inj (show some _ = some oO from ho); obtain rfl:=Option.some.inj (show some _ = some dD from hd); rfl
       | 8,ho => obtain rfl:=Option.some.inj (show some _ = some oO from ho); obtain rfl:=Option.some.inj (show some _ = some dD from hd); rfl
       | 9,ho => obtain rfl:=Option.some.inj (show some _ = some oO from ho); obtain rfl:=Option.some.inj (show some _ = some dD from hd); rfl
       | 10,ho => obtain rfl:=Option.some.inj (show some _ = some oO from ho); obtain rfl:=Option.some.inj (show some _ = some dD from hd); rfl
       | 11,ho => obtain rfl:=Option.some.inj (show some _ = some oO from ho); obtain rfl:=Option.some.inj (show some _ = some dD from hd); rfl
       | 12,ho => obtain rfl:=Option.some.inj (show some _ = some oO from ho); obtain rfl:=Option.some.inj (show some _ = some dD from hd); rfl
       | 13,ho => obtain rfl:=Option.some.inj (show some _ = some oO from ho); obtain rfl:=Option.some.inj (show some _ = some dD from hd); rfl
       | 14,ho => obtain rfl:=Option.some.inj (show some _ = some oO from ho); obtain rfl:=Option.some.inj (show some _ = some dD from hd); rfl
       | 15,ho => obtain rfl:=Option.some.inj (show some _ = some oO from ho); cases hd
       | 16,ho => obtain rfl:=Option.some.inj (show some _ = some oO from ho); obtain rfl:=Option.some.inj (show some _ = some dD from hd); rfl
       | 17,ho => obtain rfl:=Option.some.inj (show some _ = some oO from ho); cases hd
       | n + 18,ho => exact absurd (Array.getElem?_eq_some_iff.1 ho).1 (by simp)
      case step =>
       intro iI oO ho ℓ xX z hj hli hup hdl hdep K hK
       match iI,ho with
       | 0,ho =>
        obtain rfl:=Option.some.inj (show some _ = some oO from ho)
        have hls : ℓ 17 = false:=hup 12 17 (by kernel_rfl)
        have hPl:=fun xx w' (hb : Below z.heap.size z w') => jb_plain (i:=0) (x':=xx) HMID.out hj (by decide) (by decide) hls hb
        clear hdep ho hup
        dsimp only at hK ⊢
        refine wpOp_step rfl (fun K2 hK2 => ?_)
        go_simp
        exact hK2 _ _ (hK _ _ (hPl _ _ (Below.refl _ _)) (fun _ _ _ _ h => h) rfl)
       | 1,ho =>
        obtain rfl:=Option.some.inj (show some _ = some oO from ho)
        have hls : ℓ 17 = false:=hup 12 17 (by kernel_rfl)
        have hPl:=fun xx w' (hb : Below z.heap.size z w') => jb_plain (i:=1) (x':=xx) HMID.out hj (by decide) (by decide) hls hb
        clear hdep ho hup
        dsimp only at hK ⊢
        refine wpOp_step rfl (fun K2 hK2 => ?_)
        go_simp
        exact hK2 _ _ (hK _ _ (hPl _ _ (Below.refl _ _)) (fun _ _ _ _ h => h) rfl)
       | 2,ho =>
        obtain rfl:=Option.some.inj (show some _ = some oO from ho)
        have q1 : xX 99 = .int .i64 ((q + 1 : Nat) : Int):=hdep 1 (by kernel_rfl) _ _ rfl rfl
        have hls : ℓ 17 = false:=hup 12 17 (by kernel_rfl)
        have hPl:=fun xx w' (hb : Below z.heap.size z w') => jb_plain (i:=2) (x':=xx) HMID.out hj (by decide) (by decide) hls hb
        clear hdep ho hup
        dsimp only at hK ⊢
        simp only [q1] at hK ⊢
        refine wpOp_step rfl (fun K2 hK2 => ?_)
        go_simp
        exact hK2 _ _ (hK _ _ (hPl _ _ (Below.refl _ _)) (fun _ _ _ _ h => h) rfl)
       | 3,ho =>
        obtain rfl:=Option.some.inj (show some _ = some oO from ho)
        have hls : ℓ 17 = false:=hup 12 17 (by kernel_rfl)
        have hPl:=fun xx w' (hb : Below z.heap.size z w') => jb_plain (i:=3) (x':=xx) HMID.out hj (by decide) (by decide) hls hb
        clear hdep ho hup
        dsimp only at hK ⊢
        refine wpOp_step rfl (fun K2 hK2 => ?_)
        go_simp
        exact hK2 _ _ (hK _ _ (hPl _ _ (Below.refl _ _)) (fun _ _ _ _ h => h) rfl)
       | 4,ho =>
        obtain rfl:=Option.some.inj (show some _ = some oO from ho)
        have hls : ℓ 17 = false:=hup 12 17 (by kernel_rfl)
        have hPl:=fun xx w' (hb : Below z.heap.size z w') => jb_plain (i:=4) (x':=xx) HMID.out hj (by decide) (by decide) hls hb
        clear hdep ho hup
        dsimp only at hK ⊢
        refine wpOp_step rfl (fun K2 hK2 => ?_)
        go_simp
        exact hK2 _ _ (hK _ _ (hPl _ _ (Below.refl _ _)) (fun _ _ _ _ h => h) rfl)
       | 5,ho =>
        obtain rfl:=Option.some.inj (show some _ = some oO from ho)
        have hls : ℓ 17 = false:=hup 12 17 (by kernel_rfl)
        have hPl:=fun xx w' (hb : Below z.heap.size z w') => jb_plain (i:=5) (x':=xx) HMID.out hj (by decide) (by decide) hls hb
        clear hdep ho hup
        dsimp only at hK ⊢
        refine wpOp_step rfl (fun K2 hK2 => ?_)
        go_simp
        exact hK2 _ _ (hK _ _ (hPl _ _ (Below.refl _ _)) (fun _ _ _ _ h => h) rfl)
       | 6,ho =>
        obtain rfl:=Option.some.inj (show some _ = some oO from ho)
        have hls : ℓ 17 = false:=hup 12 17 (by kernel_rfl)
        have hPl:=fun xx w' (hb : Below z.heap.size z w') => jb_plain (i:=6) (x':=xx) HMID.out hj (by decide) (by decide) hls hb
        clear hdep ho hup
        dsimp only at hK ⊢
        refine wpOp_step rfl (fun K2 hK2 => ?_)
        go_simp
        exact hK2 _ _ (hK _ _ (hPl _ _ (Below.refl _ _)) (fun _ _ _ _ h => h) rfl)
       | 7,ho =>
        obtain rfl:=Option.some.inj (show some _ = some oO from ho)
        have q5 : xX 103 = .slice (some ⟨g,0,none⟩) n c7:=hdep 5 (by kernel_rfl) _ _ rfl rfl
        have q6 : xX 104 = .int .i64 ((q + 1 : Nat) : Int):=hdep 6 (by kernel_rfl) _ _ rfl rfl
        have hls : ℓ 17 = false:=hup 12 17 (by kernel_rfl)
        have hPl:=fun xx w' (hb : Below z.heap.size z w') => jb_plain (i:=7) (x':=xx) HMID.out hj (by decide) (by decide) hls hb
        clear hdep ho hup
        dsimp only at hK ⊢
        simp only [q5,q6] at hK ⊢
        refine wpOp_step rfl (fun K2 hK2 => ?_)
        go_simp
        exact hK2 _ _ (hK _ _ (hPl _ _ (Below.refl _ _)) (fun _ _ _ _ h => h) rfl)
       | 8,ho =>
        obtain rfl:=Option.some.inj (show some _ = some oO from ho)
        have q7 : xX 105 = .pointer (some ⟨g,(q + 1) * 5,none⟩):=hdep 7 (by kernel_rfl) _ _ rfl rfl
        have hls : ℓ 17 = false:=hup 12 17 (by kernel_rfl)
        have hPl:=fun xx w' (hb : Below z.heap.size z w') => jb_plain (i:=8) (x':=xx) HMID.out hj (by decide) (by decide) hls hb
        have hz:=hj.1 (hup 12 15 (by kernel_rfl))
        obtain ⟨⟨a0,a1,a2,a3,a4⟩,_⟩:=(HF6.out.low hz).at hkm
        rw [HX.out] at a0 a1 a2 a3 a4
        clear hdep ho hup
        dsimp only at hK ⊢
        simp only [q7] at hK ⊢
        refine wpOp_step rfl (fun K2 hK2 => ?_)
        go_simp
        exact hK2 _ _ (hK _ _ (hPl _ _ (Below.refl _ _)) (fun _ _ _ _ h => h) rfl)
       | 9,ho =>
        obtain rfl:=Option.some.inj (show some _ = some oO from ho)
        have hls : ℓ 17 = false:=hup 12 17 (by kernel_rfl)
        have hPl:=fun xx w' (hb : Below z.heap.size z w') => jb_plain (i:=9) (x':=xx) HMID.out hj (by decide) (by decide) hls hb
        clear hdep ho hup
        dsimp only at hK ⊢
        refine wpOp_step rfl (fun K2 hK2 => ?_)
        go_simp
        exact hK2 _ _ (hK _ _ (hPl _ _ (Below.refl _ _)) (fun _ _ _ _ h => h) rfl)
       | 10,ho =>
        obtain rfl:=Option.some.inj (show some _ = some oO from ho)
        have hls : ℓ 17 = false:=hup 12 17 (by kernel_rfl)
        have hPl:=fun xx w' (hb : Below z.heap.size z w') => jb_plain (i:=10) (x':=xx) HMID.out hj (by decide) (by decide) hls hb
        clear hdep ho hup
        dsimp only at hK ⊢
        refine wpOp_step rfl (fun K2 hK2 => ?_)
        go_simp
        exact hK2 _ _ (hK _ _ (hPl _ _ (Below.refl _ _)) (fun _ _ _ _ h => h) rfl)
       | 11,ho =>
        obtain rfl:=Option.some.inj (show some _ = some oO from ho)
        have q10 : xX 108 = .int .i64 ((q + 1 : Nat) : Int):=hdep 10 (by kernel_rfl) _ _ rfl rfl
        have hls : ℓ 17 = false:=hup 12 17 (by kernel_rfl)
        have hPl:=fun xx w' (hb : Below z.heap.size z w') => jb_plain (i:=11) (x':=xx) HMID.out hj (by decide) (by decide) hls hb
        clear hdep ho hup
        dsimp only at hK ⊢
        simp only [q10] at hK ⊢
        refine wpOp_step rfl (fun K2 hK2 => ?_)
        go_simp
        exact hK2 _ _ (hK _ _ (hPl _ _ (Below.refl _ _)) (fun _ _ _ _ h => h) rfl)
       | 12,ho =>
        obtain rfl:=Option.some.inj (show some _ = some oO from ho)
        have q9 : xX 107 = .slice (some ⟨g,0,none⟩) n c7:=hdep 9 (by kernel_rfl) _ _ rfl rfl
        have q11 : xX 109 = .int .i64 (q : Int):=hdep 11 (by kernel_rfl) _ _ rfl rfl
        have hls : ℓ 17 = false:=hup 12 17 (by kernel_rfl)
        have hPl:=fun xx w' (hb : Below z.heap.size z w') => jb_plain (i:=12) (x':=xx) HMID.out hj (by decide) (by decide) hls hb
        clear hdep ho hup
        dsimp only at hK ⊢
        simp only [q9,q11] at hK ⊢
        refine wpOp_step rfl (fun K2 hK2 => ?_)
        go_simp
        exact hK2 _ _ (hK _ _ (hPl _ _ (Below.refl _ _)) (fun _ _ _ _ h => h) rfl)
       | 13,ho =>
        obtain rfl:=Option.some.inj (show some _ = some oO from ho)
        have q12 : xX 110 = .pointer (some ⟨g,q * 5,none⟩):=hdep 12 (by kernel_rfl) _ _ rfl rfl
        have hls : ℓ 17 = false:=hup 12 17 (by kernel_rfl)
        have hPl:=fun xx w' (hb : Below z.heap.size z w') => jb_plain (i:=13) (x':=xx) HMID.out hj (by decide) (by decide) hls hb
        have hz:=hj.1 (hup 12 15 (by kernel_rfl))
        obtain ⟨⟨b0,b1,b2,b3,b4⟩,_⟩:=(HF6.out.low hz).at hqm
        rw [HY.out] at b0 b1 b2 b3 b4
        clear hdep ho hup
        dsimp only at hK ⊢
        simp only [q12] at hK ⊢
        refine wpOp_step rfl (fun K2 hK2 => ?_)
        go_simp
        exact hK2 _ _ (hK _ _ (hPl _ _ (Below.refl _ _)) (fun _ _ _ _ h => h) rfl)
       | 14,ho =>
        obtain rfl:=Option.some.inj (show some _ = some oO from ho)
        have q0 : xX 98 = .slice (some ⟨g,0,none⟩) n c7:=hdep 0 (by kernel_rfl) _ _ rfl rfl
        have q2 : xX 100 = .int .i64 (q : Int):=hdep 2 (by kernel_rfl) _ _ rfl rfl
        have hls : ℓ 17 = false:=hup 12 17 (by kernel_rfl)
        have hPl:=fun xx w' (hb : Below z.heap.size z w') => jb_plain (i:=14) (x':=xx) HMID.out hj (by decide) (by decide) hls hb
        clear hdep ho hup
        dsimp only at hK ⊢
        simp only [q0,q2] at hK ⊢
        refine wpOp_step rfl (fun K2 hK2 => ?_)
        go_simp
        exact hK2 _ _ (hK _ _ (hPl _ _ (Below.refl _ _)) (fun _ _ _ _ h => h) rfl)
       | 15,ho =>
        obtain rfl:=Option.some.inj (show some _ = some oO from ho)
        have q14 : xX 112 = .pointer (some ⟨g,q * 5,none⟩):=hdep 14 (by kernel_rfl) _ _ rfl rfl
        have q8 : xX 106 = .agg #[.int .i64 x.1,.int .i64 x.2.1.1,.int .i64 x.2.1.2,.int .i64 x.2.2.1,.int .i64 x.2.2.2]:=hdep 8 (by kernel_rfl) _ _ rfl rfl
        have hz:=hj.1 hli
        have hls : ℓ 17 = false:=hup 12 17 (by kernel_rfl)
        clear hdep ho hup
        dsimp only at hK ⊢
        simp only [q14,q8] at hK ⊢
        refine wpOp_step rfl (fun K2 hK2 => ?_)
        rw [if_pos (by rfl)]
        have hF7:=HF6.out.low hz
        refine wp_store_mid 52 _ _ rfl g (q * 5) #[.int .i64 x.1,.int .i64 x.2.1.1,.int .i64 x.2.1.2,.int .i64 x.2.2.1,.int .i64 x.2.2.2] rfl rfl (fun j hj => foThere hF7 hqm j hj) faI (by simp [Value.oneCell']) ?_
        exact hK2 _ _ (hK undef _ (jb_mid (by decide) hls (hF7.put hqm x)) (fun _ _ _ _ h => h) trivial)
       | 16,ho =>
        obtain rfl:=Option.some.inj (show some _ = some oO from ho)
        have q3 : xX 101 = .slice (some ⟨g,0,none⟩) n c7:=hdep 3 (by kernel_rfl) _ _ rfl rfl
        have q4 : xX 102 = .int .i64 ((q + 1 : Nat) : Int):=hdep 4 (by kernel_rfl) _ _ rfl rfl
        have hls : ℓ 17 = false:=hup 12 17 (by kernel_rfl)
        have hPl:=fun xx w' (hb : Below z.heap.size z w') => jb_plain (i:=16) (x':=xx) HMID.out hj (by decide) (by decide) hls hb
        clear hdep ho hup
        dsimp only at hK ⊢
        simp only [q3,q4] at hK ⊢
        refine wpOp_step rfl (fun K2 hK2 => ?_)
        go_simp
        exact hK2 _ _ (hK _ _ (hPl _ _ (Below.refl _ _)) (fun _ _ _ _ h => h) rfl)
       | 17,ho =>
        obtain rfl:=Option.some.inj (show some _ = some oO from ho)
        have q16 : xX 113 = .pointer (some ⟨g,(q + 1) * 5,none⟩):=hdep 16 (by kernel_rfl) _ _ rfl rfl
        have q13 : xX 111 = .agg #[.int .i64 y.1,.int .i64 y.2.1.1,.int .i64 y.2.1.2,.int .i64 y.2.2.1,.int .i64 y.2.2.2]:=hdep 13 (by kernel_rfl) _ _ rfl rfl
        clear hdep ho hup
        dsimp only at hK ⊢
        simp only [q16,q13] at hK ⊢
        refine wpOp_step rfl (fun K2 hK2 => ?_)
        rw [if_pos (by rfl)]
        have hF8:=hj.2.1 (hdl 1 15 (by kernel_rfl)) hli
        refine wp_store_mid 52 _ _ rfl g ((q + 1) * 5) #[.int .i64 y.1,.int .i64 y.2.1.1,.int .i64 y.2.1.2,.int .i64 y.2.2.1,.int .i64 y.2.2.2] rfl rfl (fun j hj => foThere hF8 (by rw [List.length_set]; exact hkm) j hj) faI (by simp [Value.oneCell']) ?_
        exact hK2 _ _ (hK undef _ (jb_last (by decide) (hdl 1 15 (by kernel_rfl)) (HSW.out _ (hF8.put (by rw [List.length_set]; exact hkm) y))) (fun _ _ _ hp _ => absurd hp (lastB_spec (by kernel_rfl) hdl)) trivial)
       | n + 18,ho => exact absurd (Array.getElem?_eq_some_iff.1 ho).1 (by simp)
      case done =>
       intro ℓ xX z hall hj
       have hf:=hj.2.2 (hall 17 (of_decide_eq_true (by kernel_rfl)))
       have HP7:=Lib.hid hf
       clear hj hf
       dsimp only
       go_wp2
       go_roundw
       case rel => exact ⟨q,_,by omega,by go_num,HP7,HN⟩
       case measure => simp [intOf]
     ·have HN:=Lib.hid (HEND.out hlt)
      go_wp2_with fail
      go_quiet (fail)
      have HZ:=HFIN.out HN.out _ (hF.out.low (below_drewN (Below.refl _ wr) nq))
      clear HFIN
      go_wp2
      go_roundw
      case rel => exact ⟨ii + 1,m,by omega,by omega,by go_num,HZ⟩
      case measure => simp [intOf]; omega
   ·have hi2 : ¬ (ii : Int) < (n : Int):=by omega
    have hall:=hU.out.all (by omega)
    have HPE:=Lib.hid hall.1
    have HPW:=Lib.hid hall.2
    have HML:=Lib.hid hml
    clear hall hml
    go_wp2
    go_ret2
    exact ⟨_,m,0,rfl,by rw [HML.out]; exact row_base hrow.out HBW.out.size,.inr ⟨by rw [HEE.out,HNL.out]; omega,by rw [HEE.out]; exact HPE.out,HPW.out,rfl⟩,below_step HBW.out hB.out⟩
end Go.Proofs.YthhfmppealmblaaGreatDoor
