/-
  A part of the proof: CH, ShelfS, SS.
-/
import Derived.Test.YthhfmppealmblaaGreatDoorK13
import Derived.Lib.AppendZeros
import Derived.RangeFuncNested
import Derived.Sort.CutIn
import Derived.RangeFuncBound
import Derived.Shelf.Abstract
import Derived.Shelf.RegionOpen
import Derived.OwnWalkIn
import Derived.TacticsInMore
import Derived.LoopNIn
import Derived.LoopIn
import Derived.Shelf.SlSortCmp.NoneTotal
import Derived.Test.YthhfmppealmblaaGreatDoorProg
import Derived.Test.YthhfmppealmblaaGreatDoorK07
namespace Go.Proofs.YthhfmppealmblaaGreatDoor
open Go.RowKit Go.Shelf
attribute [local go_sem] Oper.semAt_some
section
variable {F : Fence} {n : Nat} {P : Program}
theorem wpIn_range_Tf {α:Type} {g:Operand} {ps:Array Tmp} {assign body:Code} {Q:Exit→Act→World→Prop} {a:Act} {w:World}
  (hro:F.round=none) (h1:1≤n) {gf:Nat} {lb:Array Value} (hg:a.eval g = .func (.func gf) #[] lb) (hFg:F.fn gf) (eg:∀ args w,(callFunc gf args).run P w = .ok (.enter gf args) w)
  {encs:α→Array Value} {Kp:World→World→Prop} {Px:List α→α→World→Prop} {T:TypeId} {S:List α→Prop} (hseq:SeqT F (n-1) P gf lb encs Kp Px T S w)
  (hKr:∀ A,Kp A A) (hKt:∀ {A B C:World},Kp A B→Kp B C→Kp A C) (hKb:∀ (W:World) (l:Nat) (o o':Obj),w.heap.size≤l→W.heap[l]?=some o→ctlB o=true→Kp W (W.putObj l o')) (hps:∀ x,(encs x).size=ps.size)
  (I:List α→World→Prop) (hI:LastsT T w.heap.size I) (h0:I [] w) (fr:α→Act)
  (hPx:∀ pre x (W:World) (l:Nat) (o o':Obj),w.heap.size≤l→W.heap[l]?=some o→ctlB o=true→Px pre x W→Px pre x (W.putObj l o'))
  (hassign:∀ (l:Nat) (x:α) (W:World) (K:Act→World→Prop),K (fr x) W →
   assign.wpIn (F.inRound l) (n-1-1) P (Exit.then K (fun _ _ _=>False)) { tmps:=(ps.zip (encs x)).foldl (fun t (p,v)=>t.setIfInBounds p v) a.tmps,defers:=[] } W)
  (hbody:∀ (l:Nat) (pre:List α) (x:α) (W:World),w.heap.size≤W.heap.size→I pre W→Px pre x W→body.wpIn (F.inRound l) (n-1-1) P (rndT w.heap.size Kp I (pre++[x]) W) (fr x) W)
  (hdone:∀ (D:Nat) (xs:List α) (W:World),w.heap.size≤D→S xs→I xs W→W.heap[D]?=some (.deferred (some []))→Q .normal { a with defers:={ target:=.collected D,args:=#[] } :: a.defers } W) :
  (Code.rangeFunc g ps assign body).wpIn F n P Q a w :=
 wpIn_range_T hro h1 hg hFg eg hseq hKt hKb hps (fun pre W=>I pre W∧w.heap.size≤W.heap.size) (fun s A A' row hs hgr ht=>⟨hI s A A' row hs.1 hgr ht,Nat.le_trans hs.2 hgr.size⟩) ⟨h0,Nat.le_refl _⟩ (fun pre x a' W=>a'=fr x∧Px pre x W)
  (fun pre x a' W l o o' h1 h2 h3 h4=>⟨h4.1,hPx pre x W l o o' h1 h2 h3 h4.2⟩)
  (fun l pre x W K hi hpx hK=>hassign l x W K (hK _ _ (KeepsFrom.refl _ _) (hKr _) hi ⟨rfl,hpx⟩))
  (fun l pre x a' W hi hax=>by
   obtain ⟨rfl,hpx⟩:=hax
   refine wpIn_mono (hbody l pre x W hi.2 hi.1 hpx) ?_
   rintro e a3 W3 hp
   cases e with
   | normal=>exact ⟨hp.1,hp.2.1,hp.2.2,Nat.le_trans hi.2 hp.1.size⟩
   | _=>exact hp.elim)
  (fun D xs W hD hS hi hK=>hdone D xs W hD hS hi.1 hK)
end
theorem moments_any (al:Option Addr) (nl cl PB:Nat) (w:World) :
  Calls Tryz.prog 60 #[.pointer (some ⟨PB,0,none⟩),.slice al nl cl] w fun e w'=>e = .returned (.func (.func 89) #[] #[.pointer (some ⟨w.heap.size,0,none⟩),.pointer (some ⟨w.heap.size+1,0,none⟩)]) ∧
   Boxed w' w.heap.size 86 (.pointer (some ⟨PB,0,none⟩))∧Boxed w' (w.heap.size+1) 28 (.slice al nl cl)∧Below w.heap.size w w':=by
 have b1:=(Boxed.new w 86 (.pointer (some ⟨PB,0,none⟩))).alloc (.cells #[.slice al nl cl] 28)
 have b2:=Boxed.new (w.alloc (.cells #[.pointer (some ⟨PB,0,none⟩)] 86)) 28 (.slice al nl cl)
 rw [World.size_alloc] at b2
 have hb:Below w.heap.size w ((w.alloc (.cells #[.pointer (some ⟨PB,0,none⟩)] 86)).alloc (.cells #[.slice al nl cl] 28)):=((Below.refl _ _).alloc (Nat.le_refl _) _).alloc (by simp) _
 have H1:=Lib.hid b1
 have H2:=Lib.hid b2
 have HB:=Lib.hid hb
 clear b1 b2 hb
 go_enter Tryz.func60,Tryz.ntmps60
 go_wp2
 go_ret
 exact ⟨rfl,H1.out,H2.out,HB.out⟩
theorem moments_seq (n:Nat) (hn:2≤n) (w0:World) (v1 v2 v3 v4:Value) (fp:Nat→Value) (S:Sp) (hc:(checkP S).2=0) (PB:Nat) (l:List Ev) (al:Option Addr) (cl:Nat) (hll:l.length≤20000) (hgood:∀ j,j<l.length→recF S l j=0) (hsp:SpRd w0 v1 v2 v3 v4 fp S) (hpb:Blk w0 PB 27 #[v1,v2,v3,v4]) (hlv:ARd w0 (.slice al l.length cl) 5 (l.map evC))
  (Bs Bl:Nat) (W0:World) (hb:Below w0.heap.size w0 W0) (hbs:Boxed W0 Bs 86 (.pointer (some ⟨PB,0,none⟩))) (hbl:Boxed W0 Bl 28 (.slice al l.length cl)) :
  SeqT Fence.wide n Tryz.prog 89 #[.pointer (some ⟨Bs,0,none⟩),.pointer (some ⟨Bl,0,none⟩)] (moE l) (KpM w0.heap.size) (MoP w0 v1 v2 v3 v4 fp S PB l) 134 (fun xs=>xs.map (·.1)=momI l l.length) W0:=by
 intro ly J W hW hJ hY h0
 exact moments1_in n hn w0 v1 v2 v3 v4 fp S hc PB l al cl hll hgood hsp hpb hlv Bs Bl ly J W (below_step hb hW) ((hW.block Bs hbs.lt).trans hbs) ((hW.block Bl hbl.lt).trans hbl) hJ hY h0
theorem MoP.put {w0:World} {v1 v2 v3 v4:Value} {fp:Nat→Value} {S:Sp} {PB:Nat} {l:List Ev} {pre:List MoX} {x:MoX} {W:World} {k:Nat} {o o':Obj} (h:MoP w0 v1 v2 v3 v4 fp S PB l pre x W) (h1:w0.heap.size≤k) (h2:W.heap[k]?=some o) (h3:ctlB o=true):MoP w0 v1 v2 v3 v4 fp S PB l pre x (W.putObj k o') :=
 ⟨h.lt,h.en,h.pr,h.py.kept (KpM.put h1 h2 h3)⟩
theorem KpM.refl (n0:Nat) (W:World):KpM n0 W W:=⟨Below.refl _ _,fun _ _ _ _ _ h=>h⟩
set_option maxRecDepth 100000 in
set_option maxHeartbeats 12800000 in
theorem changes_in (n:Nat) (hn:6≤n) (v1 v2 v3 v4:Value) (S:Sp) (hc:(checkP S).2=0) (fp:Nat→Value) (PB:Nat) (B:(Th→Int)→Pp→Bool) (hB:SndIs S B) (l:List Ev) (vl:Value) (hR:(recE S l).2=0) (w:World) (hsp:SpRd w v1 v2 v3 v4 fp S) (hpb:Blk w PB 27 #[v1,v2,v3,v4]) (hlv:ARd w vl 5 (l.map evC)) :
  CallsIn Fence.wide n Tryz.prog 42 #[.pointer (some ⟨PB,0,none⟩),vl] w (ChgE B l w):=by
 have hmm:=@run_makeMap Tryz.prog
 obtain ⟨hll,hgood⟩:=(recE_iff hc).1 hR
 obtain ⟨al,cl,evl⟩:=hlv.form
 rw [List.length_map] at evl
 subst evl
 refine callsIn_of_wp_marks Tryz.func42 rfl trivial ?_ rfl
 simp only [Tryz.ntmps42,List.size_toArray,List.length_cons,List.length_nil,Nat.reduceAdd,Nat.reduceSub,Array.replicate_succ,Array.replicate_zero,List.push_toArray,List.append_toArray,List.nil_append,List.cons_append]
 have HSP:=Lib.hid hsp
 have HPB:=Lib.hid hpb
 have HLV:=Lib.hid hlv
 have HG:=Lib.hid hgood
 clear hsp hpb hlv hgood
 have k1:=((Boxed.new w 87 (.slice none 0 0)).alloc (.map #[] 0)).alloc (.cells #[.map (some (w.heap.size+1))] 131)
 have k2:Mp ekP ((w.alloc (.cells #[.slice none 0 0] 87)).alloc (.map #[] 0)) (w.heap.size+1) ([]:List (Pp × Value)):=by
  have:=Mp.made (ek:=ekP) (w.alloc (.cells #[.slice none 0 0] 87))
  rwa [World.size_alloc] at this
 have k3:=Boxed.new ((w.alloc (.cells #[.slice none 0 0] 87)).alloc (.map #[] 0)) 131 (.map (some (w.heap.size+1)))
 rw [World.size_alloc,World.size_alloc] at k3
 have k4:=k2.below ((Below.refl _ _).alloc (Nat.le_refl _) (.cells #[.map (some (w.heap.size+1))] 131))
 have hb3:Below w.heap.size w (((w.alloc (.cells #[.slice none 0 0] 87)).alloc (.map #[] 0)).alloc (.cells #[.map (some (w.heap.size+1))] 131)):=(((Below.refl _ _).alloc (Nat.le_refl _) _).alloc (by simp) _).alloc (by simp;omega) _
 have K1:=Lib.hid k1
 have K3:=Lib.hid k3
 have K4:=Lib.hid k4
 have HB3:=Lib.hid hb3
 clear k1 k2 k3 k4 hb3
 gi_wp2_with fail
 generalize ((w.alloc (.cells #[.slice none 0 0] 87)).alloc (.map #[] 0)).alloc (.cells #[.map (some (w.heap.size+1))] 131)=W3 at *
 refine ⟨trivial,(fun _=>by omega),?_⟩
 refine (callsIn_wide.2 (moments_any al l.length cl PB _)).mono ?_
 rintro e W4 ⟨rfl,hbs,hbl,hb4⟩
 have HB4:=Lib.hid (below_step HB3.out hb4)
 have hsz4:=HB4.out.size
 have HI0:=Lib.hid (show CgI w w.heap.size (w.heap.size+1+1) B l [] W4 from ⟨⟨.slice none 0 0,w.heap.size+1,[],[],(hb4.block _ K1.out.lt).trans K1.out,World.ownsRow_nil _ _ _ _,(hb4.block _ K3.out.lt).trans K3.out,K4.out.below hb4,ChS.start B l,Nat.zero_le _⟩,HB4.out⟩)
 have HSEQ:=Lib.hid (moments_seq (n-1) (by omega) w v1 v2 v3 v4 fp S hc PB l al cl hll HG.out HSP.out HPB.out HLV.out _ _ W4 HB4.out hbs hbl)
 clear hbs hbl hb4 K1 K3 K4 HB3
 gi_wp2_with fail
 refine' wpIn_range_Tf rfl (by omega) (gf:=89) (lb:=#[.pointer (some ⟨W3.heap.size,0,none⟩),.pointer (some ⟨W3.heap.size+1,0,none⟩)]) rfl trivial (enters_of Tryz.func89 (by kernel_rfl) rfl) HSEQ.out (KpM.refl _) (fun h k=>h.trans k) (fun W k o o' h1 h2 h3=>KpM.put (Nat.le_trans hsz4 h1) h2 h3) (fun _=>rfl) (CgI w w.heap.size (w.heap.size+1+1) B l) (fun s A A' row hs hgr ht=>hs.turn hsz4 hgr ht) HI0.out _ (fun pre x W k o o' h1 h2 h3 h4=>h4.put (Nat.le_trans hsz4 h1) h2 h3) ?assign ?body ?done
 case assign =>
  intro ly x W K hK
  dsimp only [moE]
  gi_wp2
  exact hK
 case body =>
  intro ly pre x W hsW hI hP
  obtain ⟨i,PL⟩:=x
  have hil:=hP.lt
  dsimp only at hil
  obtain ⟨tk,htk⟩:∃ z,(l.getD i ev0).1=z:=⟨_,rfl⟩
  obtain ⟨f,hfe⟩:∃ f,onV (l.take (i+1))=f:=⟨_,rfl⟩
  have hpx:=hP.py.px
  dsimp only at hpx
  rw [htk,hfe] at hpx
  have hf:OnOk S f:=by rw [← hfe];exact onOk_upto hc (by omega) (fun j hj=>HG.out j (by omega))
  obtain ⟨⟨vo,mb,was,out,hbo,hro,hbw,hmw,hcs,hol⟩,hbe⟩:=hI
  have HSO:=Lib.hid (sounding_any v1 v2 v3 v4 S hc fp PB PL f tk hf W (HSP.out.later hbe) (HPB.out.below hbe) hpx)
  have HTK:=Lib.hid (show l[i].1=tk by rw [← htk,getD_at hil])
  have HFE:=Lib.hid hfe
  have HCS:=Lib.hid hcs
  have HPR:=Lib.hid hP.pr
  have HK0:=Lib.hid (fun (mb2:Nat) (now:List Pp) (W1:World) (hb1:Below W.heap.size W W1) (hmp:Mp ekP W1 mb2 (setM now))=>(⟨(RdK.refl _ _).below hbe.size hb1,below_step hbe hb1,hbe.size,⟨vo,(hb1.block _ hbo.lt).trans hbo,row_later hro hb1⟩,Nat.le_refl _,(hb1.block _ hbw.lt).trans hbw,hmw.below hb1,hmp⟩:ChW w W w.heap.size (w.heap.size+1+1) mb mb2 was now out W1))
  have htk2:(l[i]?.getD ev0).1=tk:=by rw [← htk,List.getD_eq_getElem?_getD]
  dsimp only
  rw [htk2]
  clear htk2 htk hfe hpx hf hbo hro hbw hmw hcs hbe hP
  gi_wp2_with fail
  refine ⟨trivial,(fun _=>by omega),?_⟩
  refine ((callsIn_wide.2 HSO.out).inRound ly).mono ?_
  rintro e W1 ⟨mb2,now,rfl,_,hmp,hnd,hmem,hb1⟩
  have HC1:=Lib.hid (HK0.out mb2 now W1 hb1 hmp)
  have HND:=Lib.hid hnd
  have HME:=Lib.hid hmem
  clear hmp hnd hmem hb1 HK0 HSO
  have c6:W1.cell? ⟨w.heap.size+1+1,0,none⟩=some (.map (some mb)):=HC1.out.wb.cell
  have hmw:=HC1.out.mw
  obtain ⟨i0,hi0,hz0,hz1,hz2⟩:=info_parts cg_info
  have HWL:=Lib.hid (show was.length≤4000 from sndP_len hc HCS.out.nodup (fun p hp=>was_snd hB ((HCS.out.was p).1 hp)))
  have HNL:=Lib.hid (show now.length≤4000 from sndP_len hc HND.out (fun p hp=>⟨_,(HME.out p).1 hp⟩))
  have HEL1:=Lib.hid hol
  have HPL:=Lib.hid (show pre.length≤20000 by have h1:=congrArg List.length HPR.out;have h2:=List.length_filter_le (momB l) (List.range i);unfold momI at h1;rw [List.length_map] at h1;rw [List.length_range] at h2;omega)
  clear hol
  have hmb:=HC1.out.mw
  gi_upto_region 7 with fail
  refine wpIn_region_plain_round (by kernel_rfl) ?_
  go_wp2_with (at_range;refine wpList_range_mp _ rfl _ 131 rfl 45 4 Tryz.underlying131 rfl hmb ?_;intro w5 hrg5 hg5 hs5)
  try go_frame
  have HRG:=Lib.hid hrg5
  have HL0:=Lib.hid (show ChW w W w.heap.size (w.heap.size+1+1) mb mb2 was now (out++chgs tk (-1) ((([]:List (Pp × Value)).map (·.1)).filter fun p=>decide (p ∉ now))) w5 from by simpa [chgs] using HC1.out.below (below_none hg5))
  have HRZ:=Lib.hid (show W.heap.size≤W1.heap.size from HC1.out.rd.ko.size)
  obtain ⟨r1,hr1⟩:∃ r,W1.heap.size=r:=⟨_,rfl⟩
  rw [hr1] at HRG HRZ ⊢
  clear hrg5 hg5 hs5 hmb hr1 HC1 c6
  gi_wp2
  gi_loopw [] (fun wr=>∃ done left:List (Pp × Value),RowKit.Hid (Rg ekP wr mb r1 (setM was) left)∧RowKit.Hid ((done++left).Perm (setM was))∧RowKit.Hid (ChW w W w.heap.size (w.heap.size+1+1) mb mb2 was now (out++chgs tk (-1) ((done.map (·.1)).filter fun p=>decide (p ∉ now))) wr)) (fun wr=>wr.rangeLeft mb r1)
  case atStart=>exact ⟨[],setM was,HRG,Lib.hid (List.Perm.refl _),HL0⟩
  case round =>
   clear HRG HL0
   obtain ⟨done,left,hrg,hperm,hC⟩:=hrel
   have HLF:=Lib.hid hrg.out.left_eq
   gi_upto_region 8 with fail
   refine wpIn_region_plain_round (by kernel_rfl) ?_
   go_wp2_with (at_next;refine wpList_next_mp _ rfl _ rfl rfl hrg.out ?_ ?_)
   ·intro hleft
    have hp:=hperm.out
    rw [hleft,List.append_nil] at hp
    have hga:=gone_all (o:=now) hp HCS.out.nodup
    obtain ⟨offs,hoffs⟩:∃ z,((done.map (·.1)).filter fun p=>decide (p ∉ now))=z:=⟨_,rfl⟩
    rw [hoffs] at hga hC
    have HOFF:=Lib.hid hga
    have HC2:=Lib.hid hC.out
    have HEL2:=Lib.hid (show (out++chgs tk (-1) offs).length≤8000 * pre.length+4000 by rw [List.length_append,chgs_len];have h1:=hga.2.2;have h2:=HWL.out;have h3:=HEL1.out;omega)
    clear hga hoffs hp hperm hrg hC hleft HLF
    go_wp2_with fail
    have hmb2:=HC2.out.mn
    gi_upto_region 12 with fail
    refine wpIn_region_plain_round (by kernel_rfl) ?_
    go_wp2_with (at_range;refine wpList_range_mp _ rfl _ 131 rfl 45 4 Tryz.underlying131 rfl hmb2 ?_;intro w5 hrg5 hg5 hs5)
    try go_frame
    have HRG:=Lib.hid hrg5
    have HL0:=Lib.hid (show ChW w W w.heap.size (w.heap.size+1+1) mb mb2 was now ((out++chgs tk (-1) offs)++chgs tk 1 ((([]:List (Pp × Value)).map (·.1)).filter fun p=>decide (p ∉ was))) w5 from by simpa [chgs] using HC2.out.below (below_none hg5))
    have HRZ:=Lib.hid (show W.heap.size≤wr.heap.size from HC2.out.rd.ko.size)
    obtain ⟨r2,hr2⟩:∃ r,wr.heap.size=r:=⟨_,rfl⟩
    rw [hr2] at HRG HRZ ⊢
    clear hrg5 hg5 hs5 hmb2 hr2 HC2
    gi_wp2
    gi_loopw [] (fun wr=>∃ done left:List (Pp × Value),RowKit.Hid (Rg ekP wr mb2 r2 (setM now) left)∧RowKit.Hid ((done++left).Perm (setM now))∧RowKit.Hid (ChW w W w.heap.size (w.heap.size+1+1) mb mb2 was now ((out++chgs tk (-1) offs)++chgs tk 1 ((done.map (·.1)).filter fun p=>decide (p ∉ was))) wr)) (fun wr=>wr.rangeLeft mb2 r2)
    case atStart=>exact ⟨[],setM now,HRG,Lib.hid (List.Perm.refl _),HL0⟩
    case round =>
     clear HRG HL0
     obtain ⟨done,left,hrg,hperm,hC⟩:=hrel
     have HLF:=Lib.hid hrg.out.left_eq
     gi_upto_region 13 with fail
     refine wpIn_region_plain_round (by kernel_rfl) ?_
     go_wp2_with (at_next;refine wpList_next_mp _ rfl _ rfl rfl hrg.out ?_ ?_)
     ·intro hleft
      have hp:=hperm.out
      rw [hleft,List.append_nil] at hp
      have hgb:=gone_all (o:=was) hp HND.out
      obtain ⟨ons,hons⟩:∃ z,((done.map (·.1)).filter fun p=>decide (p ∉ was))=z:=⟨_,rfl⟩
      rw [hons] at hgb hC
      have hga:=HOFF.out
      have hwl:=HWL.out
      have hnl:=HNL.out
      have hel:=HEL1.out
      have HFIN:=Lib.hid (hC.out.end (by omega) (B:=B) (l:=l) (pre:=pre++[(i,PL)]) (by rw [List.map_append];exact HCS.out.next hil HTK.out HND.out (fun p=>by rw [HFE.out];exact (HME.out p).trans (hB f p).symm) hga.1 hga.2.1 hgb.1 hgb.2.1) (by rw [List.length_append,List.length_append,chgs_len,chgs_len,List.length_append,List.length_singleton];have h1:=hga.2.2;have h2:=hgb.2.2;omega) W4.heap.size)
      have c6:wr.cell? ⟨w.heap.size+1+1,0,none⟩=some (.map (some mb)):=hC.out.wb.cell
      have f6:=hC.out.wb.frozen
      clear hgb hga hons hp hperm hrg hC hleft hwl hnl hel HLF
      go_wp2_with fail
      gi_wp2
      exact HFIN.out
     ·intro x1 x2 v w6 hin hrg6 hg6 hs6 hen
      try go_frame
      simp only [ekP] at hen
      have hv:v = .bool true:=by obtain ⟨y,_,e⟩:=List.mem_map.1 (hrg.out.sub _ hin);exact (Prod.mk.inj e).2.symm
      subst hv
      have hC6:=hC.out.next hrg.out hg6 HRZ.out
      have hal:Below w6.heap.size w6 (w6.alloc (.cells #[.int .i64 x1,.int .i64 x2] 45)):=(Below.refl _ _).alloc (Nat.le_refl _) _
      have HC7:=Lib.hid (hC6.below hal)
      have HG7:=Lib.hid (hrg6.below hal)
      have HPM:=Lib.hid (strike_perm hrg.out.nodup hin hperm.out)
      have HLT:=Lib.hid (strike_len hin)
      have HDL:=Lib.hid (show done.length≤4000 by have h1:=hperm.out.length_eq;have h2:=HNL.out;unfold setM at h1;rw [List.length_append,List.length_map] at h1;omega)
      have HX:=Lib.hid (Blk.new w6 45 #[.int .i64 x1,.int .i64 x2])
      clear hrg hperm hC hin hrg6 hg6 hs6 hC6 hal
      go_wp2_with fail
      gi_upto_region 15 with fail
      obtain ⟨X,hX⟩:∃ X,w6.heap.size=X:=⟨_,rfl⟩
      rw [hX] at HX ⊢
      generalize w6.alloc (.cells #[.int .i64 x1,.int .i64 x2] 45)=w7 at *
      clear hX
      have x0:w7.cell? ⟨X,0,none⟩=some (.int .i64 x1):=HX.out.cell 0
      have x1':w7.cell? ⟨X,1,none⟩=some (.int .i64 x2):=HX.out.cell 1
      have c6:w7.cell? ⟨w.heap.size+1+1,0,none⟩=some (.map (some mb)):=HC7.out.wb.cell
      have hmo:=HC7.out.mw
      obtain ⟨bb,hbb⟩:∃ bb,decide ((x1,x2)∈was)=bb:=⟨_,rfl⟩
      have hget:(mget (x1,x2) (setM was)).getD (.bool false) = .bool bb:=by rw [mget_set,← hbb];congr
      have hlk:(Instr.lookup 131 (.map (some mb)) (.agg #[.int .i64 x1,.int .i64 x2]) false).run Tryz.prog w7 = .ok (.bool bb) w7:=by rw [← hget];exact (hmo.lookup pp_keys Tryz.underlying131 (Tryz.zeroValue4 _) (x1,x2)).1
      clear hmo hget
      cases bb with
      | true =>
       have HF:=Lib.hid (gone_no (done:=done) (v:=.bool true) (of_decide_eq_true hbb))
       clear hbb
       gi_wp2
       go_roundw
       case rel=>exact ⟨done++[((x1,x2),.bool true)],_,HG7,HPM,by rw [HF.out];exact HC7⟩
       case measure=>rw [HG7.out.left_eq,HLF.out];exact HLT.out
      | false =>
       have HF:=Lib.hid (gone_yes (done:=done) (v:=.bool true) (of_decide_eq_false hbb))
       obtain ⟨v7,hb7,hr7⟩:=HC7.out.box
       have c5:w7.cell? ⟨w.heap.size,0,none⟩=some v7:=hb7.cell
       obtain ⟨O,hO⟩:∃ O,(out++chgs tk (-1) offs)++chgs tk 1 ((done.map (·.1)).filter fun p=>decide (p ∉ was))=O:=⟨_,rfl⟩
       have HOL:=Lib.hid (show O.length≤8000 * pre.length+8000 by rw [← hO,List.length_append,chgs_len];have h1:=List.length_filter_le (fun p=>decide (p ∉ was)) (done.map (·.1));have h2:=HDL.out;have h3:=HEL2.out;rw [List.length_map] at h1;omega)
       have HO1:=Lib.hid (show (out++chgs tk (-1) offs)++chgs tk 1 (((done++[((x1,x2),Value.bool true)]).map (·.1)).filter fun p=>decide (p ∉ was))=O++[(tk,(x1,x2),1,0)] by rw [HF.out,chgs_snoc,← hO];simp only [List.append_assoc])
       rw [hO] at HC7 hr7
       have HB7:=Lib.hid hb7
       have HR7:=Lib.hid hr7
       have hpl:=HPL.out
       have hol:=HOL.out
       have hsz7:=HC7.out.be.size
       clear hbb hO hb7 hr7 HF
       gi_upto_region 16 with fail
       refine wpIn_region_plain_round (by kernel_rfl) ?_
       have hal2:Below w7.heap.size w7 (w7.alloc (.cells #[.int .i64 tk,.int .i64 x1,.int .i64 x2,.int .i64 1,.int .i64 0] 91)):=(Below.refl _ _).alloc (Nat.le_refl _) _
       have HA2:=Lib.hid (HC7.out.below hal2)
       have HG8:=Lib.hid (HG7.out.below hal2)
       clear hal2
       go_wp2_with (at_builtin;refine wpList_append_lies _ rfl _ _ 87 rfl w.heap.size 91 i0 _ 5 40 Tryz.underlying87 hi0 hz0 hz1 hz2 rfl (by omega) _ _ _ rfl (HR7.out.alloc _) ⟨w7.heap.size,0,none⟩ 1 1 [.int .i64 tk,.int .i64 x1,.int .i64 x2,.int .i64 1,.int .i64 0] rfl rfl (World.news_of_block (cs:=#[.int .i64 tk,.int .i64 x1,.int .i64 x2,.int .i64 1,.int .i64 0]) (t:=91) (fr:=(0,0)) (heap_alloc_new w7 _)) (by simp [Value.oneCell']) (by omega) (by unfold maxLen;omega) (by omega) (by simp;omega) (w7.heap.size+1) (by simp) ?_;intro gg cap3 w8 hown3 hgrow hat3 hlt3;have hb8:=(HB7.out.alloc (.cells #[.int .i64 tk,.int .i64 x1,.int .i64 x2,.int .i64 1,.int .i64 0] 91)).kept hgrow ((HB7.out.alloc (.cells #[.int .i64 tk,.int .i64 x1,.int .i64 x2,.int .i64 1,.int .i64 0] 91)).not_row (by decide) (HR7.out.alloc _));have c8:=hb8.cell;have f8:=hb8.frozen;have HC9:=Lib.hid (HA2.out.push (HB7.out.alloc _) hgrow (cgs_step (l:=O) (a:=tk) (p:=(x1,x2)) (b:=1) (c:=0) hown3 rfl));have HG9:=Lib.hid ((HG8.out.kept hgrow (HG8.out.row (HR7.out.alloc _)).1 (HG8.out.row (HR7.out.alloc _)).2));have HB9:=Lib.hid hb8;clear hown3 hgrow hat3 hlt3 hb8)
       have HGA:=Lib.hid (HG9.out.kept (set_grown w8 w.heap.size 0 (.slice (some ⟨gg,0,none⟩) (O.length+1) cap3)) (fun e=>(HG9.out.box HB9.out).1 (Option.some.inj e).symm) (fun e=>(HG9.out.box HB9.out).2 (Option.some.inj e).symm))
       gi_wp2
       go_roundw
       case rel=>exact ⟨done++[((x1,x2),.bool true)],_,HGA,HPM,by rw [HO1.out];exact HC9⟩
       case measure=>rw [HGA.out.left_eq,HLF.out];exact HLT.out
   ·intro x1 x2 v w6 hin hrg6 hg6 hs6 hen
    try go_frame
    simp only [ekP] at hen
    have hv:v = .bool true:=by obtain ⟨y,_,e⟩:=List.mem_map.1 (hrg.out.sub _ hin);exact (Prod.mk.inj e).2.symm
    subst hv
    have hC6:=hC.out.next hrg.out hg6 HRZ.out
    have hal:Below w6.heap.size w6 (w6.alloc (.cells #[.int .i64 x1,.int .i64 x2] 45)):=(Below.refl _ _).alloc (Nat.le_refl _) _
    have HC7:=Lib.hid (hC6.below hal)
    have HG7:=Lib.hid (hrg6.below hal)
    have HPM:=Lib.hid (strike_perm hrg.out.nodup hin hperm.out)
    have HLT:=Lib.hid (strike_len hin)
    have HDL:=Lib.hid (show done.length≤4000 by have h1:=hperm.out.length_eq;have h2:=HWL.out;unfold setM at h1;rw [List.length_append,List.length_map] at h1;omega)
    have HX:=Lib.hid (Blk.new w6 45 #[.int .i64 x1,.int .i64 x2])
    clear hrg hperm hC hin hrg6 hg6 hs6 hC6 hal
    go_wp2_with fail
    gi_upto_region 10 with fail
    obtain ⟨X,hX⟩:∃ X,w6.heap.size=X:=⟨_,rfl⟩
    rw [hX] at HX ⊢
    generalize w6.alloc (.cells #[.int .i64 x1,.int .i64 x2] 45)=w7 at *
    clear hX
    have x0:w7.cell? ⟨X,0,none⟩=some (.int .i64 x1):=HX.out.cell 0
    have x1':w7.cell? ⟨X,1,none⟩=some (.int .i64 x2):=HX.out.cell 1
    have c6:w7.cell? ⟨w.heap.size+1+1,0,none⟩=some (.map (some mb)):=HC7.out.wb.cell
    have hmo:=HC7.out.mn
    obtain ⟨bb,hbb⟩:∃ bb,decide ((x1,x2)∈now)=bb:=⟨_,rfl⟩
    have hget:(mget (x1,x2) (setM now)).getD (.bool false) = .bool bb:=by rw [mget_set,← hbb];congr
    have hlk:(Instr.lookup 131 (.map (some mb2)) (.agg #[.int .i64 x1,.int .i64 x2]) false).run Tryz.prog w7 = .ok (.bool bb) w7:=by rw [← hget];exact (hmo.lookup pp_keys Tryz.underlying131 (Tryz.zeroValue4 _) (x1,x2)).1
    clear hmo hget
    cases bb with
    | true =>
     have HF:=Lib.hid (gone_no (done:=done) (v:=.bool true) (of_decide_eq_true hbb))
     clear hbb
     gi_wp2
     go_roundw
     case rel=>exact ⟨done++[((x1,x2),.bool true)],_,HG7,HPM,by rw [HF.out];exact HC7⟩
     case measure=>rw [HG7.out.left_eq,HLF.out];exact HLT.out
    | false =>
     have HF:=Lib.hid (gone_yes (done:=done) (v:=.bool true) (of_decide_eq_false hbb))
     obtain ⟨v7,hb7,hr7⟩:=HC7.out.box
     have c5:w7.cell? ⟨w.heap.size,0,none⟩=some v7:=hb7.cell
     obtain ⟨O,hO⟩:∃ O,out++chgs tk (-1) ((done.map (·.1)).filter fun p=>decide (p ∉ now))=O:=⟨_,rfl⟩
     have HOL:=Lib.hid (show O.length≤8000 * pre.length+8000 by rw [← hO,List.length_append,chgs_len];have h1:=List.length_filter_le (fun p=>decide (p ∉ now)) (done.map (·.1));have h2:=HDL.out;have h3:=HEL1.out;rw [List.length_map] at h1;omega)
     have HO1:=Lib.hid (show out++chgs tk (-1) (((done++[((x1,x2),Value.bool true)]).map (·.1)).filter fun p=>decide (p ∉ now))=O++[(tk,(x1,x2),(-1),0)] by rw [HF.out,chgs_snoc,← hO];simp only [List.append_assoc])
     rw [hO] at HC7 hr7
     have HB7:=Lib.hid hb7
     have HR7:=Lib.hid hr7
     have hpl:=HPL.out
     have hol:=HOL.out
     have hsz7:=HC7.out.be.size
     clear hbb hO hb7 hr7 HF
     gi_upto_region 11 with fail
     refine wpIn_region_plain_round (by kernel_rfl) ?_
     have hal2:Below w7.heap.size w7 (w7.alloc (.cells #[.int .i64 tk,.int .i64 x1,.int .i64 x2,.int .i64 (-1),.int .i64 0] 91)):=(Below.refl _ _).alloc (Nat.le_refl _) _
     have HA2:=Lib.hid (HC7.out.below hal2)
     have HG8:=Lib.hid (HG7.out.below hal2)
     clear hal2
     go_wp2_with (at_builtin;refine wpList_append_lies _ rfl _ _ 87 rfl w.heap.size 91 i0 _ 5 40 Tryz.underlying87 hi0 hz0 hz1 hz2 rfl (by omega) _ _ _ rfl (HR7.out.alloc _) ⟨w7.heap.size,0,none⟩ 1 1 [.int .i64 tk,.int .i64 x1,.int .i64 x2,.int .i64 (-1),.int .i64 0] rfl rfl (World.news_of_block (cs:=#[.int .i64 tk,.int .i64 x1,.int .i64 x2,.int .i64 (-1),.int .i64 0]) (t:=91) (fr:=(0,0)) (heap_alloc_new w7 _)) (by simp [Value.oneCell']) (by omega) (by unfold maxLen;omega) (by omega) (by simp;omega) (w7.heap.size+1) (by simp) ?_;intro gg cap3 w8 hown3 hgrow hat3 hlt3;have hb8:=(HB7.out.alloc (.cells #[.int .i64 tk,.int .i64 x1,.int .i64 x2,.int .i64 (-1),.int .i64 0] 91)).kept hgrow ((HB7.out.alloc (.cells #[.int .i64 tk,.int .i64 x1,.int .i64 x2,.int .i64 (-1),.int .i64 0] 91)).not_row (by decide) (HR7.out.alloc _));have c8:=hb8.cell;have f8:=hb8.frozen;have HC9:=Lib.hid (HA2.out.push (HB7.out.alloc _) hgrow (cgs_step (l:=O) (a:=tk) (p:=(x1,x2)) (b:=(-1)) (c:=0) hown3 rfl));have HG9:=Lib.hid ((HG8.out.kept hgrow (HG8.out.row (HR7.out.alloc _)).1 (HG8.out.row (HR7.out.alloc _)).2));have HB9:=Lib.hid hb8;clear hown3 hgrow hat3 hlt3 hb8)
     have HGA:=Lib.hid (HG9.out.kept (set_grown w8 w.heap.size 0 (.slice (some ⟨gg,0,none⟩) (O.length+1) cap3)) (fun e=>(HG9.out.box HB9.out).1 (Option.some.inj e).symm) (fun e=>(HG9.out.box HB9.out).2 (Option.some.inj e).symm))
     gi_wp2
     go_roundw
     case rel=>exact ⟨done++[((x1,x2),.bool true)],_,HGA,HPM,by rw [HO1.out];exact HC9⟩
     case measure=>rw [HGA.out.left_eq,HLF.out];exact HLT.out
 case done =>
  intro D xs W hD hS hI hK
  obtain ⟨⟨v,mb,was,out,hbo,hro,hbw,hmw,hcs,hol⟩,hbe⟩:=hI
  have c5:W.cell? ⟨w.heap.size,0,none⟩=some v:=hbo.cell
  rw [hS] at hcs
  have hxl:xs.length≤l.length:=by
   have h1:=congrArg List.length hS
   have h2:=List.length_filter_le (momB l) (List.range l.length)
   unfold momI at h1
   rw [List.length_map] at h1
   rw [List.length_range] at h2
   omega
  have HFN:=Lib.hid (show ChgE B l w (.returned v) (W.putObj D (.deferred none)) from ⟨v,out,rfl,row_turn hro (grownBy_putObj' W D _) (turn_mark hK 134) (by decide),hcs.end,Nat.le_trans hol (Nat.mul_le_mul_left 8000 hxl),hbe.grown (grownBy_putObj' W D _) hbe.size (fun r e=>by cases e;exact Nat.le_trans hsz4 hD)⟩)
  clear hbo hro hbw hmw hcs hol hbe hxl hS
  dsimp only
  gi_wp2_with fail
  exact mark_ret hK rfl (fun W'=>by simp [results,Tryz.results42,go_sem]) HFN.out
theorem changes_any (v1 v2 v3 v4:Value) (S:Sp) (hc:(checkP S).2=0) (fp:Nat→Value) (PB:Nat) (B:(Th→Int)→Pp→Bool) (hB:SndIs S B) (l:List Ev) (vl:Value) (hR:(recE S l).2=0) (w:World) (hsp:SpRd w v1 v2 v3 v4 fp S) (hpb:Blk w PB 27 #[v1,v2,v3,v4]) (hlv:ARd w vl 5 (l.map evC)) :
  Calls Tryz.prog 42 #[.pointer (some ⟨PB,0,none⟩),vl] w (ChgE B l w):=callsIn_wide.1 (changes_in 6 (Nat.le_refl 6) v1 v2 v3 v4 S hc fp PB B hB l vl hR w hsp hpb hlv)
end Go.Proofs.YthhfmppealmblaaGreatDoor
namespace Go.Proofs
open Go.Shelf
def Tryz.sortWear_ren:Go.Shelf.Ren:=⟨fun | 6=>57 | 15=>87 | 14=>86 | 28=>127 | 29=>128 | 20=>119 | 21=>120 | 22=>121 | 23=>122 | 24=>123 | 25=>124 | 26=>125 | 27=>126 | 46=>157 | 47=>158 | 48=>159 | 49=>160 | 50=>161 | 57=>181 | n=>n,fun | 22=>60 | 24=>64 | 25=>125 | 3=>3 | 39=>175 | 0=>0 | 53=>227 | 55=>229 | 4=>4 | 46=>220 | 45=>219 | 50=>224 | 5=>5 | 9=>9 | 66=>247 | 70=>251 | 76=>265 | 77=>266 | n=>n,fun | n=>n⟩
theorem Tryz.sortWear:Go.Proofs.SlLaysF0.n6 Tryz.prog Tryz.sortWear_ren:={
 mixed:=by kernel_rfl
 f6:=⟨Tryz.f57.name,by decide,Tryz.func57.trans (congrArg some (by kernel_rfl))⟩
 f14:=⟨Tryz.f86.name,by decide,Tryz.func86.trans (congrArg some (by kernel_rfl))⟩
 f15:=Tryz.func87.trans (congrArg some (by kernel_rfl))
 f20:=⟨Tryz.f119.name,by decide,Tryz.func119.trans (congrArg some (by kernel_rfl))⟩
 f21:=⟨Tryz.f120.name,by decide,Tryz.func120.trans (congrArg some (by kernel_rfl))⟩
 f22:=⟨Tryz.f121.name,by decide,Tryz.func121.trans (congrArg some (by kernel_rfl))⟩
 f23:=⟨Tryz.f122.name,by decide,Tryz.func122.trans (congrArg some (by kernel_rfl))⟩
 f24:=⟨Tryz.f123.name,by decide,Tryz.func123.trans (congrArg some (by kernel_rfl))⟩
 f25:=⟨Tryz.f124.name,by decide,Tryz.func124.trans (congrArg some (by kernel_rfl))⟩
 f26:=⟨Tryz.f125.name,by decide,Tryz.func125.trans (congrArg some (by kernel_rfl))⟩
 f27:=⟨Tryz.f126.name,by decide,Tryz.func126.trans (congrArg some (by kernel_rfl))⟩
 f28:=Tryz.func127.trans (congrArg some (by kernel_rfl))
 f29:=Tryz.func128.trans (congrArg some (by kernel_rfl))
 f46:=⟨Tryz.f157.name,by decide,Tryz.func157.trans (congrArg some (by kernel_rfl))⟩
 f47:=Tryz.func158.trans (congrArg some (by kernel_rfl))
 f48:=Tryz.func159.trans (congrArg some (by kernel_rfl))
 f49:=⟨Tryz.f160.name,by decide,Tryz.func160.trans (congrArg some (by kernel_rfl))⟩
 f50:=⟨Tryz.f161.name,by decide,Tryz.func161.trans (congrArg some (by kernel_rfl))⟩
 f57:=⟨Tryz.f181.name,by decide,Tryz.func181.trans (congrArg some (by kernel_rfl))⟩
 t0:=Tryz.underlying0
 a0:=Tryz.isAgg0
 z0:=Tryz.sizeOf0
 v0:=Tryz.zeroValue0
 t3:=Tryz.underlying3
 a3:=Tryz.isAgg3
 z3:=Tryz.sizeOf3
 v3:=Tryz.zeroValue3
 t4:=Tryz.underlying4
 a4:=Tryz.isAgg4
 z4:=Tryz.sizeOf4
 v4:=Tryz.zeroValue4
 t5:=Tryz.underlying5
 a5:=Tryz.isAgg5
 z5:=Tryz.sizeOf5
 v5:=Tryz.zeroValue5
 t9:=Tryz.underlying9
 a9:=Tryz.isAgg9
 z9:=Tryz.sizeOf9
 v9:=Tryz.zeroValue9
 t22:=Tryz.underlying60
 a22:=Tryz.isAgg60
 z22:=Tryz.sizeOf60
 v22:=Tryz.zeroValue60
 t25:=Tryz.underlying125
 a25:=Tryz.isAgg125
 z25:=Tryz.sizeOf125
 v25:=Tryz.zeroValue125
 t39:=Tryz.underlying175
 a39:=Tryz.isAgg175
 z39:=Tryz.sizeOf175
 v39:=Tryz.zeroValue175
 t45:=Tryz.underlying219
 a45:=Tryz.isAgg219
 z45:=Tryz.sizeOf219
 v45:=Tryz.zeroValue219
 t46:=Tryz.underlying220
 a46:=Tryz.isAgg220
 z46:=Tryz.sizeOf220
 v46:=Tryz.zeroValue220
 t50:=Tryz.underlying224
 a50:=Tryz.isAgg224
 z50:=Tryz.sizeOf224
 v50:=Tryz.zeroValue224
 t53:=Tryz.underlying227
 a53:=Tryz.isAgg227
 z53:=Tryz.sizeOf227
 v53:=Tryz.zeroValue227
 t55:=Tryz.underlying229
 a55:=Tryz.isAgg229
 z55:=Tryz.sizeOf229
 v55:=Tryz.zeroValue229
 t66:=Tryz.underlying247
 a66:=Tryz.isAgg247
 z66:=Tryz.sizeOf247
 v66:=Tryz.zeroValue247
 t70:=Tryz.underlying251
 a70:=Tryz.isAgg251
 z70:=Tryz.sizeOf251
 v70:=Tryz.zeroValue251
 t76:=Tryz.underlying265
 a76:=Tryz.isAgg265
 z76:=Tryz.sizeOf265
 v76:=Tryz.zeroValue265
 t77:=Tryz.underlying266
 a77:=Tryz.isAgg266
 z77:=Tryz.sizeOf266
 v77:=Tryz.zeroValue266 }
def Tryz.sortChange_ren:Go.Shelf.Ren:=⟨fun | 6=>69 | 15=>87 | 14=>105 | 28=>127 | 29=>128 | 20=>137 | 21=>138 | 22=>139 | 23=>140 | 24=>141 | 25=>142 | 26=>143 | 27=>144 | 46=>175 | 47=>158 | 48=>159 | 49=>176 | 50=>177 | 57=>188 | n=>n,fun | 22=>87 | 24=>91 | 25=>158 | 3=>3 | 39=>175 | 0=>0 | 53=>227 | 55=>229 | 4=>4 | 46=>220 | 45=>219 | 50=>224 | 5=>5 | 9=>9 | 66=>247 | 70=>251 | 76=>265 | 77=>266 | n=>n,fun | n=>n⟩
theorem Tryz.sortChange:Go.Proofs.SlLaysF0.n6 Tryz.prog Tryz.sortChange_ren:={
 mixed:=by kernel_rfl
 f6:=⟨Tryz.f69.name,by decide,Tryz.func69.trans (congrArg some (by kernel_rfl))⟩
 f14:=⟨Tryz.f105.name,by decide,Tryz.func105.trans (congrArg some (by kernel_rfl))⟩
 f15:=Tryz.func87.trans (congrArg some (by kernel_rfl))
 f20:=⟨Tryz.f137.name,by decide,Tryz.func137.trans (congrArg some (by kernel_rfl))⟩
 f21:=⟨Tryz.f138.name,by decide,Tryz.func138.trans (congrArg some (by kernel_rfl))⟩
 f22:=⟨Tryz.f139.name,by decide,Tryz.func139.trans (congrArg some (by kernel_rfl))⟩
 f23:=⟨Tryz.f140.name,by decide,Tryz.func140.trans (congrArg some (by kernel_rfl))⟩
 f24:=⟨Tryz.f141.name,by decide,Tryz.func141.trans (congrArg some (by kernel_rfl))⟩
 f25:=⟨Tryz.f142.name,by decide,Tryz.func142.trans (congrArg some (by kernel_rfl))⟩
 f26:=⟨Tryz.f143.name,by decide,Tryz.func143.trans (congrArg some (by kernel_rfl))⟩
 f27:=⟨Tryz.f144.name,by decide,Tryz.func144.trans (congrArg some (by kernel_rfl))⟩
 f28:=Tryz.func127.trans (congrArg some (by kernel_rfl))
 f29:=Tryz.func128.trans (congrArg some (by kernel_rfl))
 f46:=⟨Tryz.f175.name,by decide,Tryz.func175.trans (congrArg some (by kernel_rfl))⟩
 f47:=Tryz.func158.trans (congrArg some (by kernel_rfl))
 f48:=Tryz.func159.trans (congrArg some (by kernel_rfl))
 f49:=⟨Tryz.f176.name,by decide,Tryz.func176.trans (congrArg some (by kernel_rfl))⟩
 f50:=⟨Tryz.f177.name,by decide,Tryz.func177.trans (congrArg some (by kernel_rfl))⟩
 f57:=⟨Tryz.f188.name,by decide,Tryz.func188.trans (congrArg some (by kernel_rfl))⟩
 t0:=Tryz.underlying0
 a0:=Tryz.isAgg0
 z0:=Tryz.sizeOf0
 v0:=Tryz.zeroValue0
 t3:=Tryz.underlying3
 a3:=Tryz.isAgg3
 z3:=Tryz.sizeOf3
 v3:=Tryz.zeroValue3
 t4:=Tryz.underlying4
 a4:=Tryz.isAgg4
 z4:=Tryz.sizeOf4
 v4:=Tryz.zeroValue4
 t5:=Tryz.underlying5
 a5:=Tryz.isAgg5
 z5:=Tryz.sizeOf5
 v5:=Tryz.zeroValue5
 t9:=Tryz.underlying9
 a9:=Tryz.isAgg9
 z9:=Tryz.sizeOf9
 v9:=Tryz.zeroValue9
 t22:=Tryz.underlying87
 a22:=Tryz.isAgg87
 z22:=Tryz.sizeOf87
 v22:=Tryz.zeroValue87
 t25:=Tryz.underlying158
 a25:=Tryz.isAgg158
 z25:=Tryz.sizeOf158
 v25:=Tryz.zeroValue158
 t39:=Tryz.underlying175
 a39:=Tryz.isAgg175
 z39:=Tryz.sizeOf175
 v39:=Tryz.zeroValue175
 t45:=Tryz.underlying219
 a45:=Tryz.isAgg219
 z45:=Tryz.sizeOf219
 v45:=Tryz.zeroValue219
 t46:=Tryz.underlying220
 a46:=Tryz.isAgg220
 z46:=Tryz.sizeOf220
 v46:=Tryz.zeroValue220
 t50:=Tryz.underlying224
 a50:=Tryz.isAgg224
 z50:=Tryz.sizeOf224
 v50:=Tryz.zeroValue224
 t53:=Tryz.underlying227
 a53:=Tryz.isAgg227
 z53:=Tryz.sizeOf227
 v53:=Tryz.zeroValue227
 t55:=Tryz.underlying229
 a55:=Tryz.isAgg229
 z55:=Tryz.sizeOf229
 v55:=Tryz.zeroValue229
 t66:=Tryz.underlying247
 a66:=Tryz.isAgg247
 z66:=Tryz.sizeOf247
 v66:=Tryz.zeroValue247
 t70:=Tryz.underlying251
 a70:=Tryz.isAgg251
 z70:=Tryz.sizeOf251
 v70:=Tryz.zeroValue251
 t76:=Tryz.underlying265
 a76:=Tryz.isAgg265
 z76:=Tryz.sizeOf265
 v76:=Tryz.zeroValue265
 t77:=Tryz.underlying266
 a77:=Tryz.isAgg266
 z77:=Tryz.sizeOf266
 v77:=Tryz.zeroValue266 }
def Tryz.sortFault_ren:Go.Shelf.Ren:=⟨fun | 6=>73 | 15=>87 | 14=>107 | 28=>127 | 29=>128 | 20=>145 | 21=>146 | 22=>147 | 23=>148 | 24=>149 | 25=>150 | 26=>151 | 27=>152 | 46=>178 | 47=>158 | 48=>159 | 49=>179 | 50=>180 | 57=>189 | n=>n,fun | 22=>32 | 24=>52 | 25=>160 | 3=>3 | 39=>175 | 0=>0 | 53=>227 | 55=>229 | 4=>4 | 46=>220 | 45=>219 | 50=>224 | 5=>5 | 9=>9 | 66=>247 | 70=>251 | 76=>265 | 77=>266 | n=>n,fun | n=>n⟩
theorem Tryz.sortFault:Go.Proofs.SlLaysF0.n6 Tryz.prog Tryz.sortFault_ren:={
 mixed:=by kernel_rfl
 f6:=⟨Tryz.f73.name,by decide,Tryz.func73.trans (congrArg some (by kernel_rfl))⟩
 f14:=⟨Tryz.f107.name,by decide,Tryz.func107.trans (congrArg some (by kernel_rfl))⟩
 f15:=Tryz.func87.trans (congrArg some (by kernel_rfl))
 f20:=⟨Tryz.f145.name,by decide,Tryz.func145.trans (congrArg some (by kernel_rfl))⟩
 f21:=⟨Tryz.f146.name,by decide,Tryz.func146.trans (congrArg some (by kernel_rfl))⟩
 f22:=⟨Tryz.f147.name,by decide,Tryz.func147.trans (congrArg some (by kernel_rfl))⟩
 f23:=⟨Tryz.f148.name,by decide,Tryz.func148.trans (congrArg some (by kernel_rfl))⟩
 f24:=⟨Tryz.f149.name,by decide,Tryz.func149.trans (congrArg some (by kernel_rfl))⟩
 f25:=⟨Tryz.f150.name,by decide,Tryz.func150.trans (congrArg some (by kernel_rfl))⟩
 f26:=⟨Tryz.f151.name,by decide,Tryz.func151.trans (congrArg some (by kernel_rfl))⟩
 f27:=⟨Tryz.f152.name,by decide,Tryz.func152.trans (congrArg some (by kernel_rfl))⟩
 f28:=Tryz.func127.trans (congrArg some (by kernel_rfl))
 f29:=Tryz.func128.trans (congrArg some (by kernel_rfl))
 f46:=⟨Tryz.f178.name,by decide,Tryz.func178.trans (congrArg some (by kernel_rfl))⟩
 f47:=Tryz.func158.trans (congrArg some (by kernel_rfl))
 f48:=Tryz.func159.trans (congrArg some (by kernel_rfl))
 f49:=⟨Tryz.f179.name,by decide,Tryz.func179.trans (congrArg some (by kernel_rfl))⟩
 f50:=⟨Tryz.f180.name,by decide,Tryz.func180.trans (congrArg some (by kernel_rfl))⟩
 f57:=⟨Tryz.f189.name,by decide,Tryz.func189.trans (congrArg some (by kernel_rfl))⟩
 t0:=Tryz.underlying0
 a0:=Tryz.isAgg0
 z0:=Tryz.sizeOf0
 v0:=Tryz.zeroValue0
 t3:=Tryz.underlying3
 a3:=Tryz.isAgg3
 z3:=Tryz.sizeOf3
 v3:=Tryz.zeroValue3
 t4:=Tryz.underlying4
 a4:=Tryz.isAgg4
 z4:=Tryz.sizeOf4
 v4:=Tryz.zeroValue4
 t5:=Tryz.underlying5
 a5:=Tryz.isAgg5
 z5:=Tryz.sizeOf5
 v5:=Tryz.zeroValue5
 t9:=Tryz.underlying9
 a9:=Tryz.isAgg9
 z9:=Tryz.sizeOf9
 v9:=Tryz.zeroValue9
 t22:=Tryz.underlying32
 a22:=Tryz.isAgg32
 z22:=Tryz.sizeOf32
 v22:=Tryz.zeroValue32
 t25:=Tryz.underlying160
 a25:=Tryz.isAgg160
 z25:=Tryz.sizeOf160
 v25:=Tryz.zeroValue160
 t39:=Tryz.underlying175
 a39:=Tryz.isAgg175
 z39:=Tryz.sizeOf175
 v39:=Tryz.zeroValue175
 t45:=Tryz.underlying219
 a45:=Tryz.isAgg219
 z45:=Tryz.sizeOf219
 v45:=Tryz.zeroValue219
 t46:=Tryz.underlying220
 a46:=Tryz.isAgg220
 z46:=Tryz.sizeOf220
 v46:=Tryz.zeroValue220
 t50:=Tryz.underlying224
 a50:=Tryz.isAgg224
 z50:=Tryz.sizeOf224
 v50:=Tryz.zeroValue224
 t53:=Tryz.underlying227
 a53:=Tryz.isAgg227
 z53:=Tryz.sizeOf227
 v53:=Tryz.zeroValue227
 t55:=Tryz.underlying229
 a55:=Tryz.isAgg229
 z55:=Tryz.sizeOf229
 v55:=Tryz.zeroValue229
 t66:=Tryz.underlying247
 a66:=Tryz.isAgg247
 z66:=Tryz.sizeOf247
 v66:=Tryz.zeroValue247
 t70:=Tryz.underlying251
 a70:=Tryz.isAgg251
 z70:=Tryz.sizeOf251
 v70:=Tryz.zeroValue251
 t76:=Tryz.underlying265
 a76:=Tryz.isAgg265
 z76:=Tryz.sizeOf265
 v76:=Tryz.zeroValue265
 t77:=Tryz.underlying266
 a77:=Tryz.isAgg266
 z77:=Tryz.sizeOf266
 v77:=Tryz.zeroValue266 }
end Go.Proofs
namespace Go.Proofs.YthhfmppealmblaaGreatDoor
open Go.RowKit
def cgLt' (a b:Cg):Prop:=ppLt a.2.1 b.2.1∨a.2.1=b.2.1∧a.1<b.1
instance (a b:Cg):Decidable (cgLt' a b):=by unfold cgLt' ppLt;infer_instance
theorem cgLt'_irrefl (a:Cg):¬ cgLt' a a:=by unfold cgLt' ppLt;omega
theorem cgLt'_trans {a b c:Cg} (h:cgLt' a b) (k:cgLt' b c):cgLt' a c:=by
 obtain ⟨a0,⟨a1,a2⟩,a3,a4⟩:=a
 obtain ⟨b0,⟨b1,b2⟩,b3,b4⟩:=b
 obtain ⟨c0,⟨c1,c2⟩,c3,c4⟩:=c
 unfold cgLt' ppLt at *
 simp only [Prod.mk.injEq] at *
 omega
theorem cgLt'_ntrans {a b c:Cg} (h:¬ cgLt' a b) (k:¬ cgLt' b c):¬ cgLt' a c:=by
 obtain ⟨a0,⟨a1,a2⟩,a3,a4⟩:=a
 obtain ⟨b0,⟨b1,b2⟩,b3,b4⟩:=b
 obtain ⟨c0,⟨c1,c2⟩,c3,c4⟩:=c
 unfold cgLt' ppLt at *
 simp only [Prod.mk.injEq] at *
 omega
def cfCP (a b:Cg):Int:=cfC5 a.1 a.2.1.1 a.2.1.2 b.1 b.2.1.1 b.2.1.2
theorem ltC (x y:Cg):ltOf cfCP x y=decide (cgLt' x y):=by
 obtain ⟨a0,⟨a1,a2⟩,a3,a4⟩:=x
 obtain ⟨b0,⟨b1,b2⟩,b3,b4⟩:=y
 rw [Bool.eq_iff_iff,decide_eq_true_iff]
 unfold ltOf
 rw [decide_eq_true_iff]
 unfold cfCP cfC5 cfI cmpI cgLt' ppLt
 simp only [orI,Prod.mk.injEq]
 repeat' split
 all_goals omega
theorem swoC:Sort.SWO (ltOf cfCP) where
 irrefl x:=by rw [ltC];simpa using cgLt'_irrefl x
 trans x y z h1 h2:=by rw [ltC] at *;simp only [decide_eq_true_eq] at *;exact cgLt'_trans h1 h2
 ntrans x y z h1 h2:=by
  rw [ltC] at *
  simp only [decide_eq_false_iff_not] at *
  exact cgLt'_ntrans h1 h2
set_option maxHeartbeats 1000000 in
theorem sortC_any (l:List Cg) (hn:l.length≤1000000000) (base:Nat) (v:Value) (w:World) (h:w.ownsRow base 91 5 v l.length (l.map cgC).flatten) :
  Calls Tryz.prog 69 #[v,.func (.func 70) #[] #[]] w fun e w'=>e = .returned (.tuple #[])∧∃ m:List Cg,m.Perm l∧(m.Pairwise fun a b=>¬ cgLt' b a)∧w'.ownsRow base 91 5 v m.length (m.map cgC).flatten∧w.grownBy w' v.ownBlock:=by
 rcases h.2 with ⟨hv,h0⟩ | ⟨g,cap,cur,hv,hbg,hg,hrest⟩
 ·have hl0:l=[]:=List.length_eq_zero_iff.1 h0
  subst hl0
  have hcon:=AnyF.slices_SortFunc_none Tryz.sortChange none 0 (.func (.func 70) #[] #[]) w
  rw [← hv] at hcon
  change Calls Tryz.prog 69 _ _ _ at hcon
  refine hcon.mono ?_
  rintro e w' ⟨rfl,rfl⟩
  exact ⟨rfl,[],List.Perm.refl _,List.Pairwise.nil,h,World.grownBy.refl _ _⟩
 ·obtain ⟨d,hd⟩:∃ d:Array Cg,d.toList=l:=⟨l.toArray,rfl⟩
  have hsz:d.size=l.length:=by rw [← hd,Array.length_toList]
  have eg:∀ args w,(callFunc 70 args).run Tryz.prog w = .ok (.enter 70 args) w:=enters_of Tryz.func70 (by kernel_rfl) rfl
  have h':=h
  rw [hv,← hd] at h'
  rw [Array.length_toList] at h'
  have hH:=holdsK_row (enc:=cgC) (k:=5) (fun _=>rfl) h'
  have hcon:=AnyQ.slices_SortFunc Tryz.sortChange 5 Tryz.isAgg91 Tryz.sizeOf91 cgC (fun _=>rfl) (fun x v hv=>by simp [cgC] at hv;rcases hv with rfl | rfl | rfl | rfl | rfl <;> rfl) cfCP swoC 70 #[] g 0 cap d w eg (fun _ _ _ _ x y=>beforeC_any x.1 x.2.1.1 x.2.1.2 x.2.2.1 x.2.2.2 y.1 y.2.1.1 y.2.1.2 y.2.2.1 y.2.2.2 _) hH.1 hH.2 (by omega)
  rw [hsz,← hv] at hcon
  change Calls Tryz.prog 69 _ _ _ at hcon
  refine hcon.mono ?_
  rintro e w' ⟨rfl,d',n,os,hp,hs,rfl⟩
  obtain ⟨hsz2,_,hperm⟩:=hp
  rw [← hsz] at hperm hs
  have e1:d'.extract 0 d.size=d':=by rw [← hsz2];exact Array.extract_size
  rw [e1,Array.extract_size] at hperm
  refine ⟨rfl,d'.toList,?_,?_,?_,?_⟩
  ·rw [← hd];exact hperm
  ·rw [List.pairwise_iff_getElem]
   intro i j hi hj hij
   have hj':j<d'.size:=by simpa using hj
   have hi':i<d'.size:=by simpa using hi
   have:=hs i j (Nat.zero_le _) hij (by omega)
   rw [ltC,getElem!_pos d' i hi',getElem!_pos d' j hj'] at this
   simpa using this
  ·have:=sorted_row (enc:=cgC) (n:=n) (os:=os) (fun _=>rfl) hsz2 h'
   rw [hv,← hsz]
   simpa [Array.length_toList] using this
  ·rw [hv];exact sorted_grown
def faLt' (a b:Fa):Prop:=a.2.2.1<b.2.2.1∨a.2.2.1=b.2.2.1∧ppLt a.2.1 b.2.1
instance (a b:Fa):Decidable (faLt' a b):=by unfold faLt' ppLt;infer_instance
theorem faLt'_irrefl (a:Fa):¬ faLt' a a:=by unfold faLt' ppLt;omega
theorem faLt'_trans {a b c:Fa} (h:faLt' a b) (k:faLt' b c):faLt' a c:=by
 obtain ⟨a0,⟨a1,a2⟩,a3,a4⟩:=a
 obtain ⟨b0,⟨b1,b2⟩,b3,b4⟩:=b
 obtain ⟨c0,⟨c1,c2⟩,c3,c4⟩:=c
 unfold faLt' ppLt at *
 simp only at *
 omega
theorem faLt'_ntrans {a b c:Fa} (h:¬ faLt' a b) (k:¬ faLt' b c):¬ faLt' a c:=by
 obtain ⟨a0,⟨a1,a2⟩,a3,a4⟩:=a
 obtain ⟨b0,⟨b1,b2⟩,b3,b4⟩:=b
 obtain ⟨c0,⟨c1,c2⟩,c3,c4⟩:=c
 unfold faLt' ppLt at *
 simp only at *
 omega
def cfFP (a b:Fa):Int:=cfF5 a.2.1.1 a.2.1.2 a.2.2.1 b.2.1.1 b.2.1.2 b.2.2.1
theorem ltF (x y:Fa):ltOf cfFP x y=decide (faLt' x y):=by
 obtain ⟨a0,⟨a1,a2⟩,a3,a4⟩:=x
 obtain ⟨b0,⟨b1,b2⟩,b3,b4⟩:=y
 rw [Bool.eq_iff_iff,decide_eq_true_iff]
 unfold ltOf
 rw [decide_eq_true_iff]
 unfold cfFP cfF5 cfI cmpI faLt' ppLt
 simp only [orI]
 repeat' split
 all_goals omega
theorem swoF:Sort.SWO (ltOf cfFP) where
 irrefl x:=by rw [ltF];simpa using faLt'_irrefl x
 trans x y z h1 h2:=by rw [ltF] at *;simp only [decide_eq_true_eq] at *;exact faLt'_trans h1 h2
 ntrans x y z h1 h2:=by
  rw [ltF] at *
  simp only [decide_eq_false_iff_not] at *
  exact faLt'_ntrans h1 h2
set_option maxHeartbeats 1000000 in
theorem sortF_any (l:List Fa) (hn:l.length≤1000000000) (base:Nat) (v:Value) (w:World) (h:w.ownsRow base 52 5 v l.length (l.map faC).flatten) :
  Calls Tryz.prog 73 #[v,.func (.func 74) #[] #[]] w fun e w'=>e = .returned (.tuple #[])∧∃ m:List Fa,m.Perm l∧(m.Pairwise fun a b=>¬ faLt' b a)∧w'.ownsRow base 52 5 v m.length (m.map faC).flatten∧w.grownBy w' v.ownBlock:=by
 rcases h.2 with ⟨hv,h0⟩ | ⟨g,cap,cur,hv,hbg,hg,hrest⟩
 ·have hl0:l=[]:=List.length_eq_zero_iff.1 h0
  subst hl0
  have hcon:=AnyF.slices_SortFunc_none Tryz.sortFault none 0 (.func (.func 74) #[] #[]) w
  rw [← hv] at hcon
  change Calls Tryz.prog 73 _ _ _ at hcon
  refine hcon.mono ?_
  rintro e w' ⟨rfl,rfl⟩
  exact ⟨rfl,[],List.Perm.refl _,List.Pairwise.nil,h,World.grownBy.refl _ _⟩
 ·obtain ⟨d,hd⟩:∃ d:Array Fa,d.toList=l:=⟨l.toArray,rfl⟩
  have hsz:d.size=l.length:=by rw [← hd,Array.length_toList]
  have eg:∀ args w,(callFunc 74 args).run Tryz.prog w = .ok (.enter 74 args) w:=enters_of Tryz.func74 (by kernel_rfl) rfl
  have h':=h
  rw [hv,← hd] at h'
  rw [Array.length_toList] at h'
  have hH:=holdsK_row (enc:=faC) (k:=5) (fun _=>rfl) h'
  have hcon:=AnyQ.slices_SortFunc Tryz.sortFault 5 Tryz.isAgg52 Tryz.sizeOf52 faC (fun _=>rfl) (fun x v hv=>by simp [faC] at hv;rcases hv with rfl | rfl | rfl | rfl | rfl <;> rfl) cfFP swoF 74 #[] g 0 cap d w eg (fun _ _ _ _ x y=>beforeF_any x.1 x.2.1.1 x.2.1.2 x.2.2.1 x.2.2.2 y.1 y.2.1.1 y.2.1.2 y.2.2.1 y.2.2.2 _) hH.1 hH.2 (by omega)
  rw [hsz,← hv] at hcon
  change Calls Tryz.prog 73 _ _ _ at hcon
  refine hcon.mono ?_
  rintro e w' ⟨rfl,d',n,os,hp,hs,rfl⟩
  obtain ⟨hsz2,_,hperm⟩:=hp
  rw [← hsz] at hperm hs
  have e1:d'.extract 0 d.size=d':=by rw [← hsz2];exact Array.extract_size
  rw [e1,Array.extract_size] at hperm
  refine ⟨rfl,d'.toList,?_,?_,?_,?_⟩
  ·rw [← hd];exact hperm
  ·rw [List.pairwise_iff_getElem]
   intro i j hi hj hij
   have hj':j<d'.size:=by simpa using hj
   have hi':i<d'.size:=by simpa using hi
   have:=hs i j (Nat.zero_le _) hij (by omega)
   rw [ltF,getElem!_pos d' i hi',getElem!_pos d' j hj'] at this
   simpa using this
  ·have:=sorted_row (enc:=faC) (n:=n) (os:=os) (fun _=>rfl) hsz2 h'
   rw [hv,← hsz]
   simpa [Array.length_toList] using this
  ·rw [hv];exact sorted_grown
theorem cgLe_of {l:List Cg} (h:l.Pairwise fun a b=>¬ cgLt' b a):l.Pairwise cgLe:=h.imp fun {a b} hab=>by
 obtain ⟨a0,⟨a1,a2⟩,a3,a4⟩:=a
 obtain ⟨b0,⟨b1,b2⟩,b3,b4⟩:=b
 unfold cgLt' ppLt at hab
 unfold cgLe ppLt
 simp only [Prod.mk.injEq] at *
 omega
theorem faLe_of {l:List Fa} (h:l.Pairwise fun a b=>¬ faLt' b a):l.Pairwise faLe:=h
end Go.Proofs.YthhfmppealmblaaGreatDoor
