/-
  A part of the proof: AJ2,AJ8,UP,UE,UF,UR,VA,WA,SR.
-/
import Derived.Test.YteflhbfgpknabaaGreatDoorL02
import Derived.Test.YteflhbfgpknabaaGreatDoorL08
import Derived.Test.YteflhbfgpknabaaGreatDoorL07
import Derived.Test.YteflhbfgpknabaaGreatDoorL19
import Derived.Test.YteflhbfgpknabaaGreatDoorL16
import Derived.Test.YteflhbfgpknabaaGreatDoorL12
import Derived.BigQuiet
import Derived.Deep.QuietTactic
import Derived.Test.YteflhbfgpknabaaGreatDoorL04
import Derived.Shelf.GgSortFunc.InsertionK
import Derived.Shelf.SlSortCmp.Insertion
import Derived.Laws.AppendOwn
import Derived.Test.YteflhbfgpknabaaGreatDoorL14
set_option maxRecDepth 100000
set_option maxHeartbeats 12800000
namespace Go.Proofs.YteflhbfgpknabaaGreatDoor
open Go.RowKit
def PpsR2 (m:List Pp) (w:World) (e:Ending) (w':World):Prop:=∃ v,e = .returned (.tuple #[v,.int .i64 0])∧w'.ownsRow w.heap.size 78 2 v m.length (ppCs m)∧Below w.heap.size w w'
theorem ARd.dbAt {w:World} {v:Value} {l:List (Pp × Int)} (h:ARd w v 3 (l.map dbC)) (i:Nat) (hi:i<l.length):∃ b o c,v = .slice (some ⟨b,o,none⟩) l.length c∧b<w.heap.size∧w.cell? ⟨b,o+i * 3,none⟩=some (.int .i64 l[i].1.1)∧w.cell? ⟨b,o+i * 3+1,none⟩=some (.int .i64 l[i].1.2):=by
 obtain ⟨b,o,c,e,hlt,hc⟩:=h.at i (by simpa using hi)
 rw [List.getElem_map] at hc
 rw [List.length_map] at e
 exact ⟨b,o,c,e,hlt,hc 0 _ rfl,hc 1 _ rfl⟩
theorem sndL_len {S:Sp} (hc:(checkP S).2=0) (B:(Th→Int)→Pp→Bool) (f:Th→Int):(sndL S B f).length≤4000:=by
 have hsg:=spGood hc
 have h1:=allFrom_len hsg.r 0
 have h2:=List.length_filter_le (B f) (allFrom 0 S.rs)
 have:=hsg.rs
 unfold sndL
 omega
theorem pipes12_any (v1 v2 v3 v4:Value) (S:Sp) (ok:SpOk S) (hc:(checkP S).2=0) (fp:Nat→Value) (vk vs vc:Value) (f:Th→Int) (hf:OnOk S f) (B:(Th→Int)→Pp→Bool) (hB:SndIs S B) (w:World) (hsp:SpRd w v1 v2 v3 v4 fp S) (hh:HdRd w vk vs vc S f) :
  Calls Tryz.prog 82 #[.agg #[v1,v2,v3,v4],.agg #[vk,vs,vc]] w (PpsR2 (sndL S B f) w):=by
 obtain ⟨i0,hi0,hz0,hz1,hz2⟩:=info_parts pp_info
 have hln:=sndL_len hc B f
 have HSP:=Lib.hid hsp
 have HH:=Lib.hid hh
 have b0:=(Blk.new w 27 #[v1,v2,v3,v4]).alloc (.cells #[vk,vs,vc] 32)
 have b1:=Blk.new (w.alloc (.cells #[v1,v2,v3,v4] 27)) 32 #[vk,vs,vc]
 rw [World.size_alloc] at b1
 have HB:=Lib.hid (below_two w (.cells #[v1,v2,v3,v4] 27) (.cells #[vk,vs,vc] 32))
 have B0:=Lib.hid b0
 have B1:=Lib.hid b1
 have HCK:=Lib.hid (fun (W:World) (hb:Below w.heap.size w W)=>check12_ok v1 v2 v3 v4 S ok hc fp vk vs vc f hf W (hsp.later hb) (hh.later hb))
 have HCH:=Lib.hid (fun (W:World) (hb:Below w.heap.size w W)=>chains_any v1 v2 v3 v4 S ok hc fp vk vs vc f hf W (hsp.later hb) (hh.later hb))
 have HSO:=Lib.hid (fun (W:World) (base LB:Nat) (rb:Nat→Nat) (G:Gr) (hb:Below w.heap.size w W) (hg:GrI base S.ds.length S.ds.length LB rb G W) (hG:∀ q,G q≠none↔Acts S f q)=>sounds_any v1 v2 v3 v4 S hc fp vk vs vc f B hB base LB rb G hG W (hsp.later hb) (hh.later hb) hg)
 clear hsp hh b0 b1 ok hc hf hB
 obtain ⟨s0,s1,s2,s3⟩:=B0.out.four
 have h0:=B1.out.cell 0
 have h1:=B1.out.cell 1
 have h2:=B1.out.cell 2
 simp only [List.getElem?_toArray,List.getElem?_cons_zero,List.getElem?_cons_succ] at h0 h1 h2
 go_enter Tryz.func82,Tryz.ntmps82
 go_wp2_with fail
 refine (HCK.out _ HB.out).mono ?_
 rintro e W ⟨rfl,hb⟩
 have HB2:=Lib.hid (below_step HB.out hb)
 have hdr:=hold7 (W0:=W) ⟨Below.refl _ W,(B0.out.below hb).cell 0,(B0.out.below hb).cell 1,(B0.out.below hb).cell 2,(B0.out.below hb).cell 3,(B1.out.below hb).cell 0,(B1.out.below hb).cell 1,(B1.out.below hb).cell 2⟩ ((Below.refl _ W).drew)
 clear s0 s1 s2 s3 h0 h1 h2 HCK B0 B1 HB hb
 go_wp2_with fail
 go_region_held3 (fun w'=>Below W.heap.size W w'∧w'.cell? ⟨w.heap.size,0,none⟩=some v1∧w'.cell? ⟨w.heap.size,1,none⟩=some v2∧w'.cell? ⟨w.heap.size,2,none⟩=some v3∧w'.cell? ⟨w.heap.size,3,none⟩=some v4∧w'.cell? ⟨w.heap.size+1,0,none⟩=some vk∧w'.cell? ⟨w.heap.size+1,1,none⟩=some vs∧w'.cell? ⟨w.heap.size+1,2,none⟩=some vc) (first | exact hdr | assumption) (first | (go_at_call 121;(with_reducible refine (HCH.out _ (below_step HB2.out hdr.1)).mono ?_);rintro e w2 ⟨LB,rb,G,rfl,hg2,hG2,hb2⟩;have hn:=hold7 hdr hb2;clear hb2) | (go_at_call 120;(with_reducible refine (HSO.out _ _ _ _ _ (below_step HB2.out hn.1) hg2 hG2).mono ?_);rintro e w3 ⟨va,D,rfl,hrow,hD,hb3⟩;have hn3:=hold7 hn hb3;clear hb3))
 have HB3:=Lib.hid (below_step HB2.out hn3.1)
 have hDl:D.length≤4000:=by rw [← List.length_map (f:=(·.1)),hD];exact hln
 have HDA:=Lib.hid (ARd.of_dbs hrow)
 obtain ⟨aa,ca,eva⟩:=HDA.out.form
 rw [List.length_map] at eva
 subst eva
 have HDM:=Lib.hid hD
 have HR0:=Lib.hid (show w3.ownsRow w3.heap.size 78 2 (.slice none 0 0) ((D.take 0).map (·.1)).length (ppCs ((D.take 0).map (·.1))) from World.ownsRow_nil _ _ _ _)
 have HB0:=Lib.hid (Below.refl w3.heap.size w3)
 clear hdr hn hn3 hg2 hG2 hrow hD HCH HSO
 go_wp2
 go_loopw [8,9] (fun v x wr=>∃ i:Nat,i≤D.length∧x = .int .i64 i∧Hid (wr.ownsRow w3.heap.size 78 2 v ((D.take i).map (·.1)).length (ppCs ((D.take i).map (·.1))))∧Hid (Below w3.heap.size w3 wr)) (fun _ x _=>D.length-(intOf x).toNat)
 case atStart=>exact ⟨0,Nat.zero_le _,rfl,HR0,HB0⟩
 clear HR0 HB0
 obtain ⟨i,hi,rfl,hrow,hB⟩:=hrel
 by_cases hil:i<D.length
 ·have hi2:(i:Int)<(D.length:Int):=by omega
  obtain ⟨b,o,c',ev,hbl,k0,k1⟩:=(HDA.out.later hB.out).dbAt i hil
  cases ev
  have HN:=Lib.hid (show (D.take (i+1)).map (·.1)=(D.take i).map (·.1)++[D[i].1] by rw [List.take_succ_eq_append_getElem hil,List.map_append];rfl)
  have hlen:((D.take i).map (·.1)).length≤4000:=by rw [List.length_map,List.length_take];omega
  obtain ⟨p,hp⟩:∃ p,D[i].1=p:=⟨_,rfl⟩
  rw [hp] at k0 k1 HN
  obtain ⟨M,hM⟩:∃ M,(D.take i).map (·.1)=M:=⟨_,rfl⟩
  rw [hM] at hrow hlen HN
  have hsz:=hB.out.size
  clear hp hM
  go_wp2_with (at_builtin;refine wpList_append_lies _ rfl _ _ 50 rfl w3.heap.size 78 i0 _ 2 16 Tryz.underlying50 hi0 hz0 hz1 hz2 rfl (by omega) _ _ _ rfl (hrow.out.alloc _) ⟨wr.heap.size,0,none⟩ 1 1 [.int .i64 p.1,.int .i64 p.2] rfl rfl (World.news_of_block (cs:=#[.int .i64 p.1,.int .i64 p.2]) (t:=78) (fr:=(0,0)) (heap_alloc_new wr _)) (by simp [Value.oneCell']) (by omega) (by unfold maxLen;omega) (by omega) (by simp;omega) (wr.heap.size+1) (by simp) ?_;intro gg cap w4 hown3 hgrow hat3 hlt3)
  have HP:=Lib.hid (pps_step (l:=M) (p:=p) hown3 rfl)
  rw [← HN.out] at HP
  have HB4:=Lib.hid (push_low hB.out hrow.out hgrow)
  clear hown3 hgrow hat3 hlt3
  go_wp2
  go_roundw
  case rel=>exact ⟨i+1,by omega,by go_num,by have:=HP.out;rw [HN.out] at this ⊢;simpa only [List.length_append] using Lib.hid this,HB4⟩
  case measure=>simp [intOf];omega
 ·have hi2:¬ (i:Int)<(D.length:Int):=by omega
  have hie:i=D.length:=by omega
  rw [hie,List.take_length,HDM.out] at hrow
  clear hie
  go_wp2
  go_ret2
  exact ⟨_,rfl,row_base hrow.out HB3.out.size,below_step HB3.out hB.out⟩
end Go.Proofs.YteflhbfgpknabaaGreatDoor
namespace Go.Proofs.YteflhbfgpknabaaGreatDoor
open Go.RowKit Go.Shelf
def PidR (m:List Pp) (nr:Nat) (w:World) (e:Ending) (w':World):Prop:=∃ (v:Value) (L:List Pp),e = .returned v∧w'.ownsRow w.heap.size 78 2 v L.length (ppCs L)∧L.Pairwise ppLt∧(∀ p,p∈L↔p∈m)∧L.length≤nr * 128∧Below w.heap.size w w'
structure PiX (w:World) (L:List Pp) (W:World):Prop where
  b:Below w.heap.size w W
  row:∃ v,Blk W w.heap.size 50 #[v]∧W.ownsRow w.heap.size 78 2 v L.length (ppCs L)
theorem PiX.low {w W W':World} {L:List Pp} (h:PiX w L W) (hb:Below W.heap.size W W'):PiX w L W':=by
  obtain ⟨v,hv,hrow⟩:=h.row
  exact ⟨below_step h.b hb,v,hv.below hb,row_later hrow hb⟩
theorem owns_set {W:World} {base size n B:Nat} {t T:TypeId} {u:Value} {xs:List Value} {cs:Array Value} (h:W.ownsRow base t size u n xs) {v:Value} (hB:Blk W B T cs) (ht:T≠t):(W.setCell ⟨B,0,none⟩ v).ownsRow base t size u n xs:=by
  obtain ⟨h1,h2⟩:=h
  refine ⟨h1,h2.imp id ?_⟩
  rintro ⟨g,cap,cur,e1,e2,e3,e4⟩
  refine ⟨g,cap,cur,e1,e2,?_,e4⟩
  rw [Below.heap_setCell W ⟨B,0,none⟩ v g (fun e=>ht (by
    have h5:W.heap[B]?=_:=hB
    rw [show g=B from e,h5] at e3
    cases e3
    rfl))]
  exact e3
theorem owns_kept {W W':World} {base size n:Nat} {t:TypeId} {v:Value} {xs:List Value} {row:Option Nat} (h:W.ownsRow base t size v n xs) (hg:W.grownBy W' row) (hr:∀ r,row=some r→∃ o:Obj,W.heap[r]?=some o∧o.isCells=false):W'.ownsRow base t size v n xs:=by
  obtain ⟨h1,h2⟩:=h
  refine ⟨h1,h2.imp id ?_⟩
  rintro ⟨g,cap,cur,e1,e2,e3,e4⟩
  refine ⟨g,cap,cur,e1,e2,?_,e4⟩
  rw [hg.block g (Array.getElem?_eq_some_iff.1 e3).1 (fun e=>by
    obtain ⟨o,ho,hc⟩:=hr g e.symm
    rw [e3] at ho
    cases ho
    cases hc)]
  exact e3
theorem owns_cells {W:World} {base size n r:Nat} {t:TypeId} {v:Value} {xs:List Value} (h:W.ownsRow base t size v n xs) (hv:v.ownBlock=some r):∃ cs t fr,W.heap[r]?=some (.cells cs t fr):=by
  obtain ⟨_,⟨rfl,_⟩ | ⟨g,cap,cur,rfl,_,e3,_⟩⟩:=h
  · cases hv
  · cases hv
    exact ⟨_,_,_,e3⟩
theorem owns_cleared {W:World} {B base size n:Nat} {Ds:List Nat} {t:TypeId} {v:Value} {xs:List Value} (hm:MarksOk B Ds W) (h:W.ownsRow base t size v n xs):(cleared W Ds).ownsRow base t size v n xs:=by
  obtain ⟨h1,h2⟩:=h
  refine ⟨h1,h2.imp id ?_⟩
  rintro ⟨g,cap,cur,e1,e2,e3,e4⟩
  refine ⟨g,cap,cur,e1,e2,?_,e4⟩
  rw [cleared_block Ds W g (fun hg=>by
    have:=(hm.at' g hg).2
    rw [e3] at this
    cases this)]
  exact e3
structure PiJ (w:World) (k X:Nat) (Ds:List Nat) (L0:List Pp) (pre:List NtP) (W:World):Prop where
  px:PiX w (L0++pre.map fun x=>((k:Int),(x.1:Int))) W
  mks:MarksOk w.heap.size Ds W
  bx:Blk W X 3 #[.int .i64 (k:Int)]
theorem PiJ.ownFrom {w:World} {k X:Nat} {Ds:List Nat} {L0:List Pp} {B:Nat} (hD:∀ D∈Ds,D<B) (hB:w.heap.size≤B):OwnFrom B (PiJ w k X Ds L0):=by
  intro pre W W' row h hg hr
  obtain ⟨⟨hb,v,hv,hrow⟩,hm,hx⟩:=h
  have ne:∀ {b:Nat} {T:TypeId} {cs:Array Value},Blk W b T cs→row≠some b:=fun hb e=>by
    obtain ⟨_,o,ho,hc⟩:=hr _ e
    rw [show W.heap[_]?=_ from hb] at ho
    cases ho
    cases hc
  refine ⟨⟨hb.grown hg hb.size (fun k e=>Nat.le_trans hB (hr k e).1),v,hv.grown hg (ne hv),owns_kept hrow hg fun r e=>(hr r e).2⟩,hm.keeps fun D hDm=>?_,hx.grown hg (ne hx)⟩
  exact hg.block D (hm.lt hDm) (fun e=>by have:=(hr D e.symm).1;have:=hD D hDm;omega)
structure PiQ (m:List Pp) (k:Nat) (L:List Pp):Prop where
  asc:L.Pairwise ppLt
  mem:∀ p,p∈L↔p∈m∧p.1<(k:Int)
  len:L.length≤k * 128
theorem nts_asc (q:Rw):(nts q).Pairwise (· < ·):=List.Pairwise.filter _ List.pairwise_lt_range
theorem PiQ.turn {m:List Pp} {k:Nat} {L:List Pp} (h:PiQ m k L) {q:Rw} (hq:SetIs q fun t=>decide (((k:Int),(t:Int))∈m)) (hb:∀ p∈m,0≤p.2∧p.2<128):PiQ m (k+1) (L++(nts q).map fun (t:Nat)=>((k:Int),(t:Int))):=by
  have hmem:∀ t:Nat,t∈nts q↔t<128∧((k:Int),(t:Int))∈m:=fun t=>by
    rw [mem_nts]
    exact and_congr_right fun ht=>by rw [hq.2 t ht,decide_eq_true_iff]
  refine ⟨?_,?_,?_⟩
  · rw [List.pairwise_append]
    refine ⟨h.asc,?_,?_⟩
    · rw [List.pairwise_map]
      exact (nts_asc q).imp fun h=>Or.inr ⟨rfl,by simp only;omega⟩
    · intro a ha b hb'
      obtain ⟨t,_,rfl⟩:=List.mem_map.1 hb'
      exact .inl ((h.mem a).1 ha).2
  · intro p
    rw [List.mem_append,h.mem p,List.mem_map]
    constructor
    · rintro (⟨h1,h2⟩ | ⟨t,ht,rfl⟩)
      · exact ⟨h1,by omega⟩
      · exact ⟨((hmem t).1 ht).2,by simp only;omega⟩
    · rintro ⟨h1,h2⟩
      by_cases e:p.1<(k:Int)
      · exact .inl ⟨h1,e⟩
      · have h3:=hb p h1
        refine .inr ⟨p.2.toNat,(hmem _).2 ⟨by omega,?_⟩,?_⟩
        · rw [Int.toNat_of_nonneg h3.1,show ((k:Int),p.2)=p from Prod.ext (by simp only;omega) rfl]
          exact h1
        · exact Prod.ext (by simp only;omega) (Int.toNat_of_nonneg h3.1)
  · rw [List.length_append,List.length_map]
    have:=nts_len q
    have:=h.len
    omega
attribute [local go_sem] Oper.semAt_some
theorem piped_in (nn:Nat) (hnn:6≤nn) (SB nr:Nat) (hnr:nr≤40) (m:List Pp) (hm:∀ p∈m,0≤p.1∧p.1<(nr:Int)∧0≤p.2∧p.2<128) (w:World) (hD:Deb w) (hk:KsI w SB nr m) (cap:Nat) (_hcap:nr≤cap) :
    CallsIn Fence.wide nn Tryz.prog 116 #[.slice (some ⟨SB,0,none⟩) nr cap] w (PidR m nr w):=by
  obtain ⟨i0,hi0,hz0,hz1,hz2⟩:=info_parts pp_info
  refine callsIn_of_wp_marks Tryz.func116 rfl trivial ?_ rfl
  simp only [Tryz.ntmps116,List.size_toArray,List.length_cons,List.length_nil,Nat.reduceAdd,Nat.reduceSub,Array.replicate_succ,Array.replicate_zero,List.push_toArray,List.append_toArray,List.nil_append,List.cons_append]
  have HK:=Lib.hid hk
  have HD:=Lib.hid hD
  have HM:=Lib.hid hm
  clear hk hD hm
  gi_wp2
  have HX0:=Lib.hid (show PiX w [] (w.alloc (.cells #[.slice none 0 0] 50)) from ⟨(Below.refl _ _).alloc (Nat.le_refl _) _,_,Blk.new w _ _,World.ownsRow_nil _ _ _ _⟩)
  have HMK:=Lib.hid (MarksOk.nil w.heap.size (w.alloc (.cells #[.slice none 0 0] 50)))
  have HQ0:=Lib.hid (show PiQ m 0 [] from ⟨List.Pairwise.nil,fun p=>⟨fun h=>absurd h List.not_mem_nil,fun h=>absurd h.2 (by have:=HM.out p h.1;omega)⟩,Nat.zero_le _⟩)
  generalize w.alloc (.cells #[.slice none 0 0] 50)=W0 at *
  refine wpIn_loop (fun a wr=>∃ (u4 u5 u6 u9 u10 u11 u12 u13 u14 u15 u16 u17 u18 u19 u20 u21 u22 u23:Value) (Ds:List Nat),(∃ (k:Nat) (L:List Pp),k≤nr∧u9 = .int .i64 k∧Hid (PiX w L wr)∧Hid (PiQ m k L)∧Hid (MarksOk w.heap.size Ds wr))∧a={ tmps:=#[.slice (some ⟨SB,0,none⟩) nr cap,undef,.slice none 0 0,.pointer (some ⟨w.heap.size,0,none⟩),u4,u5,u6,.slice (some ⟨SB,0,none⟩) nr cap,.int .i64 (nr:Int),u9,u10,u11,u12,u13,u14,u15,u16,u17,u18,u19,u20,u21,u22,u23,undef],defers:=marks Ds }) (fun a _=>nr-(intOf (a.tmps.getD 9 undef)).toNat) ?_ ?_
  · repeat apply Exists.intro
    exact ⟨⟨0,[],Nat.zero_le _,rfl,HX0,HQ0,HMK⟩,rfl⟩
  · intro _ wr hinv
    clear HX0 HQ0 HMK
    refine Exists.elim hinv ?_
    clear hinv
    intro u4 hinv
    refine Exists.elim hinv ?_
    clear hinv
    intro u5 hinv
    refine Exists.elim hinv ?_
    clear hinv
    intro u6 hinv
    refine Exists.elim hinv ?_
    clear hinv
    intro u9 hinv
    refine Exists.elim hinv ?_
    clear hinv
    intro u10 hinv
    refine Exists.elim hinv ?_
    clear hinv
    intro u11 hinv
    refine Exists.elim hinv ?_
    clear hinv
    intro u12 hinv
    refine Exists.elim hinv ?_
    clear hinv
    intro u13 hinv
    refine Exists.elim hinv ?_
    clear hinv
    intro u14 hinv
    refine Exists.elim hinv ?_
    clear hinv
    intro u15 hinv
    refine Exists.elim hinv ?_
    clear hinv
    intro u16 hinv
    refine Exists.elim hinv ?_
    clear hinv
    intro u17 hinv
    refine Exists.elim hinv ?_
    clear hinv
    intro u18 hinv
    refine Exists.elim hinv ?_
    clear hinv
    intro u19 hinv
    refine Exists.elim hinv ?_
    clear hinv
    intro u20 hinv
    refine Exists.elim hinv ?_
    clear hinv
    intro u21 hinv
    refine Exists.elim hinv ?_
    clear hinv
    intro u22 hinv
    refine Exists.elim hinv ?_
    clear hinv
    intro u23 hinv
    obtain ⟨Ds,⟨k,L,hk,rfl,hX,hQ,hDs⟩,ha⟩:=hinv
    subst ha
    by_cases hkl:k<nr
    · have hk2:(k:Int)<(nr:Int):=by omega
      obtain ⟨q,g0,g1,hq⟩:=(HK.out.below hX.out.b).at' hkl
      have HDQ:=Lib.hid (hQ.out.turn hq (fun p hp=>(HM.out p hp).2.2))
      have HRQ:=Lib.hid hq.1
      have hL:L.length≤5120:=by have:=hQ.out.len;omega
      clear hq
      gi_upto_region 5 with fail
      have hb3:Below wr.heap.size wr ((wr.alloc (.cells #[.int .i64 (k:Int)] 3)).alloc (.cells #[.int .u64 q.1,.int .u64 q.2] 202)):=below_two wr _ _
      have HX3:=Lib.hid (hX.out.low hb3)
      have HM3:=Lib.hid (hDs.out.below hb3)
      have HB3:=Lib.hid ((Blk.new wr 3 #[.int .i64 (k:Int)]).alloc (.cells #[.int .u64 q.1,.int .u64 q.2] 202))
      have hq3:=Blk.new (wr.alloc (.cells #[.int .i64 (k:Int)] 3)) 202 #[.int .u64 q.1,.int .u64 q.2]
      rw [World.size_alloc] at hq3
      have q0:=hq3.cell 0
      have q1:=hq3.cell 1
      obtain ⟨X,hXe⟩:∃ X,wr.heap.size=X:=⟨_,rfl⟩
      rw [hXe] at HB3 q0 q1 ⊢
      generalize (wr.alloc (.cells #[.int .i64 (k:Int)] 3)).alloc (.cells #[.int .u64 q.1,.int .u64 q.2] 202)=W4 at *
      clear hb3 hq3 hX hDs
      gi_wp2_with fail
      refine ⟨trivial,(fun _=>by omega),?_⟩
      refine (callsIn_wide.2 (all_any q.1 q.2 _)).mono ?_
      rintro e W5 ⟨rfl,rfl⟩
      clear q0 q1
      have hb5:Below W4.heap.size W4 (W4.alloc (.cells #[.int .u64 q.1,.int .u64 q.2] 202)):=(Below.refl _ W4).alloc (Nat.le_refl _) _
      have HX5:=Lib.hid (HX3.out.low hb5)
      have HM5:=Lib.hid (HM3.out.below hb5)
      have HB5:=Lib.hid (HB3.out.below hb5)
      have HQX:=Blk.new W4 202 #[.int .u64 q.1,.int .u64 q.2]
      obtain ⟨Q,hQe⟩:∃ Q,W4.heap.size=Q:=⟨_,rfl⟩
      rw [hQe] at HQX ⊢
      generalize W4.alloc (.cells #[.int .u64 q.1,.int .u64 q.2] 202)=W5 at *
      have HQB:=Lib.hid HQX
      have H0:=Lib.hid (show PiJ w k X Ds L [] W5 from ⟨by rw [List.map_nil,List.append_nil];exact HX5.out,HM5.out,HB5.out⟩)
      have HDS:=Lib.hid (show ∀ D∈Ds,D<W5.heap.size from fun D hD=>HM5.out.lt hD)
      have HDB:=Lib.hid (HD.out.below HX5.out.b)
      have hszw:=HX5.out.b.size
      have HKT:=Lib.hid (show ∀ W',Below w.heap.size w W'→Deb W' from fun W' hb=>HD.out.below hb)
      clear hb5 HX3 HM3 HB3 HQX hQe HX5 HM5 HB5 hQ
      gi_wp2_with fail
      refine' wpIn_rangeFunc_ownG (a₁:=_) rfl (by omega) (gf:=181) (lb:=#[.pointer (some ⟨Q,0,none⟩)]) rfl trivial (enters_of Tryz.func181 (by kernel_rfl) rfl)
        (all_stops (nn-1) (by omega) Q q HRQ.out (fun X Y=>Deb X→Deb Y) (fun _ _ h=>h) W5 HDB.out HQB.out)
        (fun h k s=>k (h s)) (fun _ _ _ o' _ h1 h2 _ s=>s.putObj o' h1 h2) (Below.refl _ _) (fun _=>rfl)
        (PiJ w k X Ds L) (fun _ _ _=>False) (PiJ.ownFrom HDS.out hszw) (fun _ _ _ _ _ hs _ _=>hs) H0.out ?assign ?body ?done ?stop
      case assign =>
        intro l x W K hK
        dsimp only [ntE]
        gi_wp2
        exact hK
      case body =>
        rintro l pre y W hR hlp
        obtain ⟨t,hte⟩:∃ t,y.1=t:=⟨_,rfl⟩
        have hpn:pre.length<128:=Nat.lt_of_lt_of_le hlp (nts_len q)
        rw [hte]
        obtain ⟨⟨hb,v,hv,hrow⟩,hm,hx⟩:=hR
        have b0:=hv.cell 0
        have b1:=hv.frozen 0
        have x0:=hx.cell 0
        obtain ⟨L1,hL1⟩:∃ L1,(L++pre.map fun x=>((k:Int),(x.1:Int)))=L1:=⟨_,rfl⟩
        have HL1:=Lib.hid hL1
        rw [hL1] at hrow
        have hlen:L1.length≤6000:=by rw [← hL1,List.length_append,List.length_map];omega
        have hsz:=hb.size
        have HV:=Lib.hid hv
        have HB:=Lib.hid hb
        have HRW:=Lib.hid hrow
        have HMm:=Lib.hid hm
        have HXm:=Lib.hid hx
        have HTE:=Lib.hid hte
        clear hL1 hv hb hrow hm hx hte
        gi_upto_region 7 with fail
        refine wpIn_region_plain_round (by kernel_rfl) ?_
        go_wp2_with (at_builtin;refine wpList_append_lies _ rfl _ _ 50 rfl w.heap.size 78 i0 _ 2 16 Tryz.underlying50 hi0 hz0 hz1 hz2 rfl (by omega) _ _ _ rfl (HRW.out.alloc _) ⟨W.heap.size,0,none⟩ 1 1 [.int .i64 (k:Int),.int .i64 (t:Int)] rfl rfl (World.news_of_block (cs:=#[.int .i64 (k:Int),.int .i64 (t:Int)]) (t:=78) (fr:=(0,0)) (heap_alloc_new W _)) (by simp [Value.oneCell']) (by omega) (by unfold maxLen;omega) (by omega) (by simp;omega) (W.heap.size+1) (by simp) ?_;intro gg cap' w4 hown3 hgrow hat3 hlt3;have V4:=Lib.hid (HV.out.rowed HRW.out (by decide) hgrow);have c0:=V4.out.cell 0;have c1:=V4.out.frozen 0)
        have hg2:=set_grown w4 w.heap.size 0 (.slice (some ⟨gg,0,none⟩) (L1.length+1) cap')
        have hown4:=pps_step (l:=L1) (p:=((k:Int),(t:Int))) hown3 rfl
        have hnb:(Value.slice (some ⟨gg,0,none⟩) (L1.length+1) cap').ownBlock≠some w.heap.size:=row_not hown3 V4.out (by decide)
        have HPX:=Lib.hid (show PiX w (L1++[((k:Int),(t:Int))]) (w4.setCell ⟨w.heap.size,0,none⟩ (.slice (some ⟨gg,0,none⟩) (L1.length+1) cap')) from by
          have hb4:=push_low HB.out HRW.out hgrow
          exact ⟨hb4.grown hg2 hb4.size (fun k e=>by cases e;exact Nat.le_refl _),_,V4.out.set 0 _,by have:=owns_set hown4 (v:=.slice (some ⟨gg,0,none⟩) (L1.length+1) cap') V4.out (by decide);exact this⟩)
        have HEND:=Lib.hid (show PiJ w k X Ds L (pre++[y]) (w4.setCell ⟨w.heap.size,0,none⟩ (.slice (some ⟨gg,0,none⟩) (L1.length+1) cap')) from
          ⟨by rw [List.map_append,← List.append_assoc,HL1.out,List.map_singleton,HTE.out];exact HPX.out,
           (((HMm.out.below ((Below.refl _ W).alloc (Nat.le_refl _) _)).grown hgrow (fun r e=>owns_cells (HRW.out.alloc _) e)).grown hg2 (fun r e=>by cases e;exact ⟨_,_,_,V4.out⟩)),((HXm.out.rowed HRW.out (by decide) hgrow).grown hg2 (fun e=>V4.out.ne (HXm.out.rowed HRW.out (by decide) hgrow) (by decide) (Option.some.inj e)))⟩)
        have HKO:=Lib.hid (show KeepsOthers W (w4.setCell ⟨w.heap.size,0,none⟩ (.slice (some ⟨gg,0,none⟩) (L1.length+1) cap')) from
          ((KeepsOthers.alloc W _).trans (KeepsOthers.of_grownBy hgrow (fun j o e ho=>by obtain ⟨_,_,_,h⟩:=owns_cells (HRW.out.alloc _) e;rw [h] at ho;cases ho;rfl))).trans (KeepsOthers.setCell _ _ _))
        exact ⟨HKO.out.from _,fun _=>HKT.out _ HEND.out.px.b,HEND.out⟩
      case done =>
        rintro D ys W hD hys hR hK
        have HX9:=hR.px
        rw [show (ys.map fun x=>((k:Int),(x.1:Int)))=(nts q).map fun (t:Nat)=>((k:Int),(t:Int)) from by rw [← hys,List.map_map];rfl] at HX9
        have HY9:=Lib.hid HX9
        have HM2:=Lib.hid (hR.mks.cons (fun hm=>by have:=HDS.out D hm;omega) (by omega) hK)
        clear hR hK HX9
        gi_wp2_with fail
        refine ⟨?_,?_⟩
        · repeat apply Exists.intro
          exact ⟨⟨k+1,_,by omega,by go_num,HY9,HDQ,HM2⟩,rfl⟩
        · simp [intOf];omega
      case stop =>
        rintro D c pre W _ _ h _
        exact h.elim
    · have hk2:¬ (k:Int)<(nr:Int):=by omega
      have hke:k=nr:=by omega
      obtain ⟨hb,v,hv,hrow⟩:=hX.out
      have v0:=hv.cell 0
      have HRET:=Lib.hid (show PidR m nr w (.returned v) (cleared wr Ds) from
        ⟨v,L,rfl,owns_cleared hDs.out hrow,hQ.out.asc,fun p=>(hQ.out.mem p).trans (and_iff_left_of_imp fun h=>by have:=HM.out p h;omega),hke ▸ hQ.out.len,hb.trans (below_clr fun D hD=>(hDs.out.at' D hD).1)⟩)
      clear hb hv hrow hX hQ
      gi_wp2
      exact marks_ret hDs.out rfl (by simp [results,Tryz.results116,go_sem]) HRET.out
end Go.Proofs.YteflhbfgpknabaaGreatDoor
namespace Go.Proofs.YteflhbfgpknabaaGreatDoor
open Go.RowKit
theorem risE_at {l:List Int} {lo up bad:Int} {i:Nat} (hi:i<l.length) (h0:firstErr (risF l lo up bad) i=0) {e:Int} (he:risF l lo up bad i=e) (hne:e≠0):risE l lo up bad=e:=by
 have h1:firstErr (risF l lo up bad) (i+1)=e:=(firstErr_next h0).trans he
 unfold risE
 rw [firstErr_at (k:=i+1) (by rw [h1];exact hne) hi,h1]
theorem risF_out {l:List Int} {lo up bad:Int} {i:Nat} (hi:i<l.length) (h:l[i]<lo∨up<l[i]):risF l lo up bad i=bad:=by
 unfold risF
 rw [getD_int hi,if_pos h]
theorem risF_in {l:List Int} {lo up bad:Int} {i:Nat} (hi:i<l.length) (h1:¬ l[i]<lo) (h2:¬ up<l[i]):risF l lo up bad i=if 0<i∧l[i]≤l.getD (i-1) 0 then 8 else 0:=by
 unfold risF
 rw [getD_int hi,if_neg (by omega)]
theorem risS_any (l:List Int) (v:Value) (lo up bad:Int) (hbad:bad≠0) (w:World) (hv:ARd w v 1 (l.map iC)) (hl:l.length≤10000) :
  Calls Tryz.prog 75 #[v,.int .i64 lo,.int .i64 up,.int .i64 bad] w fun e w'=>e = .returned (.int .i64 (risE l lo up bad))∧∃ n,w'=w.drewN n:=by
 obtain ⟨a,c,rfl⟩:=hv.intForm
 have HV:=Lib.hid hv
 have HF0:Hid (firstErr (risF l lo up bad) 0=0):=Lib.hid rfl
 have HBD:=Lib.hid hbad
 clear hv hbad
 go_enter Tryz.func75,Tryz.ntmps75
 go_wp2
 go_loop [13] (fun x=>∃ i:Nat,i≤l.length∧x = .int .i64 i∧Hid (firstErr (risF l lo up bad) i=0)) (fun x=>l.length-(intOf x).toNat)
 case atStart=>exact ⟨0,Nat.zero_le _,rfl,HF0⟩
 clear HF0
 obtain ⟨i,hi,rfl,hF⟩:=hrel
 by_cases hil:i<l.length
 ·have hi2:(i:Int)<(l.length:Int):=by omega
  obtain ⟨b,o,c',ev,hbl,q0⟩:=HV.out.intAt i hil
  cases ev
  have HO:=Lib.hid (fun (h:l[i]<lo∨up<l[i])=>risE_at hil hF.out (risF_out hil h) HBD.out)
  have HI:=Lib.hid (fun (h1:¬ l[i]<lo) (h2:¬ up<l[i])=>risF_in (bad:=bad) hil h1 h2)
  obtain ⟨x,hx⟩:∃ x,l[i]=x:=⟨_,rfl⟩
  rw [hx] at q0 HO HI
  clear hx
  by_cases c1:x<lo
  ·have HE:=Lib.hid (HO.out (.inl c1))
   have d1:decide (x<lo)=true:=decide_eq_true c1
   clear c1 HO HI
   go_wp2
   go_ret
   exact ⟨congrArg (fun z=>Ending.returned (.int .i64 z)) HE.out.symm,0,rfl⟩
  have d1:decide (x<lo)=false:=decide_eq_false c1
  by_cases c2:up<x
  ·have HE:=Lib.hid (HO.out (.inr c2))
   have d2:decide (up<x)=true:=decide_eq_true c2
   clear c1 c2 HO HI
   go_wp2
   go_ret
   exact ⟨congrArg (fun z=>Ending.returned (.int .i64 z)) HE.out.symm,0,rfl⟩
  have d2:decide (up<x)=false:=decide_eq_false c2
  have HQ:=Lib.hid (HI.out c1 c2)
  clear c1 c2 HO HI
  by_cases hz:i=0
  ·have HN0:=Lib.hid (show firstErr (risF l lo up bad) (i+1)=0 by rw [firstErr_next hF.out,HQ.out,if_neg (by omega)])
   have d3:decide (0<i)=false:=decide_eq_false (by omega)
   have d4:decide ((0:Int)<(i:Int))=false:=decide_eq_false (by omega)
   clear hz
   go_wp2
   go_round
   case rel=>exact ⟨i+1,by omega,by go_num,HN0⟩
   case measure=>simp [intOf];omega
  ·have d3:decide (0<i)=true:=decide_eq_true (by omega)
   have d4:decide ((0:Int)<(i:Int))=true:=decide_eq_true (by omega)
   have hi0:0<i:=by omega
   obtain ⟨b',o',c',ev,_,q1⟩:=HV.out.intAt (i-1) (by omega)
   cases ev
   have hgd:l.getD (i-1) 0=l[i-1]'(by omega):=getD_int (by omega)
   rw [hgd] at HQ
   obtain ⟨y,hy⟩:∃ y,l[i-1]'(by omega)=y:=⟨_,rfl⟩
   rw [hy] at q1 HQ
   have e1:IntKind.i64.wrap ((i:Int)-1)=(i:Int)-1:=IntWalk.i64_in _ (by omega)
   have e2:0≤(i:Int)-1:=by omega
   have e3:((i:Int)-1).toNat=i-1:=by omega
   have e4:(i:Int)-1<(l.length:Int):=by omega
   have e5:1≤(i:Int):=by omega
   clear hy hgd
   by_cases c3:x≤y
   ·have HE:=Lib.hid (risE_at hil hF.out (by rw [HQ.out,if_pos ⟨hi0,c3⟩]) (by decide:(8:Int)≠0))
    have d5:decide (x≤y)=true:=decide_eq_true c3
    clear c3
    go_wp2
    go_ret
    exact ⟨congrArg (fun z=>Ending.returned (.int .i64 z)) HE.out.symm,0,rfl⟩
   ·have HN0:=Lib.hid (show firstErr (risF l lo up bad) (i+1)=0 by rw [firstErr_next hF.out,HQ.out,if_neg (fun q=>c3 q.2)])
    have d5:decide (x≤y)=false:=decide_eq_false c3
    clear c3
    go_wp2
    go_round
    case rel=>exact ⟨i+1,by omega,by go_num,HN0⟩
    case measure=>simp [intOf];omega
 ·have hi2:¬ (i:Int)<(l.length:Int):=by omega
  have HE:=Lib.hid (show risE l lo up bad=0 by unfold risE;rw [show l.length=i by omega];exact hF.out)
  go_wp2
  go_ret
  exact ⟨congrArg (fun z=>Ending.returned (.int .i64 z)) HE.out.symm,0,rfl⟩
theorem HnRd.keyAt {W:World} {vk vs vc:Value} {H:Hn} (h:HnRd W vk vs vc H) {d:Nat} (hd:d<H.ks.length):∃ b o c g,vk = .slice (some ⟨b,o,none⟩) H.ks.length c∧W.cell? ⟨b,o+d,none⟩=some g∧ARd W g 1 ((H.ks.getD d []).map iC):=by
 obtain ⟨⟨g,h1,h2⟩,_⟩:=h
 obtain ⟨b,o,c,e,_,hc⟩:=h1.at d (by simpa using hd)
 refine ⟨b,o,c,g d,by simpa using e,?_,(h2 d hd).1⟩
 have:=hc 0 (g d) (by simp)
 simpa using this
structure HnSm (H:Hn):Prop where
 kn:H.ks.length≤1000
 ks:∀ d,(H.ks.getD d []).length≤1000
 ss:H.ss.length≤1000
 cs:H.cs.length≤1000
theorem keyF_at {S:Sp} {H:Hn} {d:Nat} (hd:d<S.ds.length):keyF S H d=risE (H.ks.getD d []) S.ds[d].lo S.ds[d].hi 7:=by
 unfold keyF
 rw [List.getElem?_eq_getElem hd]
 rfl
theorem hnE_bad {S:Sp} {H:Hn} (h:(checkP S).2≠0):hnE S H=(checkP S).2:=if_pos h
theorem hnE_len {S:Sp} {H:Hn} (h:(checkP S).2=0) (hl:H.ks.length≠S.ds.length):hnE S H=2:=by
 unfold hnE hndE
 rw [if_neg (by omega),if_pos hl]
theorem hnE_key {S:Sp} {H:Hn} (h:(checkP S).2=0) (hl:H.ks.length=S.ds.length) {i:Nat} (hi:i<S.ds.length) (h0:firstErr (keyF S H) i=0) {e:Int} (he:keyF S H i=e) (hne:e≠0):hnE S H=e:=by
 have h1:firstErr (keyF S H) (i+1)=e:=(firstErr_next h0).trans he
 have h2:firstErr (keyF S H) S.ds.length=e:=by rw [firstErr_at (k:=i+1) (by rw [h1];exact hne) hi,h1]
 unfold hnE hndE
 rw [if_neg (by omega),if_neg (by omega),h2,if_pos hne]
theorem hnE_stop {S:Sp} {H:Hn} (h:(checkP S).2=0) (hl:H.ks.length=S.ds.length) (h0:firstErr (keyF S H) S.ds.length=0) {e:Int} (he:risE H.ss 0 ((S.ss.length:Int)-1) 4=e) (hne:e≠0):hnE S H=e:=by
 unfold hnE hndE
 rw [if_neg (by omega),if_neg (by omega),h0,if_neg (by omega),he,if_pos hne]
theorem hnE_cou {S:Sp} {H:Hn} (h:(checkP S).2=0) (hl:H.ks.length=S.ds.length) (h0:firstErr (keyF S H) S.ds.length=0) (he:risE H.ss 0 ((S.ss.length:Int)-1) 4=0):hnE S H=risE H.cs 0 ((S.cs.length:Int)-1) 4:=by
 unfold hnE hndE
 rw [if_neg (by omega),if_neg (by omega),h0,if_neg (by omega),he,if_neg (by omega)]
theorem checkS_any (v1 v2 v3 v4:Value) (S:Sp) (ok:SpWk S) (fp:Nat→Value) (vk vs vc:Value) (H:Hn) (hm:HnSm H) (w:World) (ht:Tabs w) (hsp:SpRd w v1 v2 v3 v4 fp S) (hh:HnRd w vk vs vc H) :
  Calls Tryz.prog 36 #[.agg #[v1,v2,v3,v4],.agg #[vk,vs,vc]] w (NumR (hnE S H) w):=by
 obtain ⟨⟨a1,c1,rfl⟩,_,⟨a3,c3,rfl⟩,⟨a4,c4,rfl⟩⟩:=hsp.forms
 obtain ⟨⟨ak,ck,rfl⟩,⟨as',cs',rfl⟩,⟨ac,cc,rfl⟩⟩:=hh.forms
 have HSP:=Lib.hid hsp
 have HOK:=Lib.hid ok
 have HH:=Lib.hid hh
 have HM:=Lib.hid hm
 have HT:=Lib.hid ht
 obtain ⟨fl,hfl⟩:∃ fl,(checkP S).1=fl:=⟨_,rfl⟩
 obtain ⟨ce,hce⟩:∃ ce,(checkP S).2=ce:=⟨_,rfl⟩
 have hcv:ckV (checkP S) = .tuple #[.agg #[.int .i64 fl.1,.int .i64 fl.2.1,.int .i64 fl.2.2],.int .i64 ce]:=by unfold ckV;rw [hfl,hce]
 have HCV:=Lib.hid hcv
 have HCE:=Lib.hid hce
 have b0:=(Blk.new w 27 #[.slice a1 S.ds.length c1,v2,.slice a3 S.ss.length c3,.slice a4 S.cs.length c4]).alloc (.cells #[.slice ak H.ks.length ck,.slice as' H.ss.length cs',.slice ac H.cs.length cc] 32)
 have b1:=Blk.new (w.alloc (.cells #[.slice a1 S.ds.length c1,v2,.slice a3 S.ss.length c3,.slice a4 S.cs.length c4] 27)) 32 #[.slice ak H.ks.length ck,.slice as' H.ss.length cs',.slice ac H.cs.length cc]
 rw [World.size_alloc] at b1
 have B0:=Lib.hid b0
 have B1:=Lib.hid b1
 have HB:=Lib.hid (below_two w (.cells #[.slice a1 S.ds.length c1,v2,.slice a3 S.ss.length c3,.slice a4 S.cs.length c4] 27) (.cells #[.slice ak H.ks.length ck,.slice as' H.ss.length cs',.slice ac H.cs.length cc] 32))
 clear hsp ok hh hcv hfl hce b0 b1 hm ht
 go_enter Tryz.func36,Tryz.ntmps36
 go_wp2_with fail
 generalize (w.alloc (.cells #[.slice a1 S.ds.length c1,v2,.slice a3 S.ss.length c3,.slice a4 S.cs.length c4] 27)).alloc (.cells #[.slice ak H.ks.length ck,.slice as' H.ss.length cs',.slice ac H.cs.length cc] 32)=W at *
 refine (check_wk _ _ _ _ S HOK.out _ (HT.out.below HB.out) fp (HSP.out.later HB.out)).mono ?_
 rw [HCV.out]
 rintro e W1 ⟨rfl,hb1⟩
 obtain ⟨W2,hw2⟩:∃ W2,W1.alloc (.cells #[.int .i64 fl.1,.int .i64 fl.2.1,.int .i64 fl.2.2] 69)=W2:=⟨_,rfl⟩
 have hb2:Below W1.heap.size W1 W2:=by rw [← hw2];exact (Below.refl _ _).alloc (Nat.le_refl _) _
 have HB2:=Lib.hid (below_step (below_step HB.out hb1) hb2)
 have C0:=Lib.hid ((B0.out.below hb1).below hb2)
 have C1:=Lib.hid ((B1.out.below hb1).below hb2)
 clear hb1 hb2 HB B0 B1
 obtain ⟨s0,s1,s2,s3⟩:=C0.out.four
 have h0:W2.cell? ⟨w.heap.size+1,0,none⟩=some (.slice ak H.ks.length ck):=C1.out.cell 0
 by_cases hz:ce=0
 case neg =>
  have q1:(ce==0)=false:=by simpa using hz
  have q2:(ce != 0)=true:=by simpa using hz
  have HE:=Lib.hid (show hnE S H=ce by rw [hnE_bad (by rw [HCE.out];exact hz),HCE.out])
  clear hz
  go_wp2
  try rw [hw2]
  go_ret
  exact numR HE.out HB2.out
 subst hz
 by_cases hlen:H.ks.length=S.ds.length
 case neg =>
  have q3:((H.ks.length:Int)==(S.ds.length:Int))=false:=by rw [beq_eq_false_iff_ne];omega
  have HE:=Lib.hid (hnE_len HCE.out hlen)
  clear hlen
  go_wp2
  try rw [hw2]
  go_ret
  exact numR HE.out HB2.out
 have HL:=Lib.hid hlen
 have q3:((H.ks.length:Int)==(S.ds.length:Int))=true:=by rw [beq_iff_eq];omega
 have hkn:=(sp_lens HCE.out).1
 have hrefl:Hid (Below W2.heap.size W2 W2):=Lib.hid (Below.refl _ _)
 have HF0:Hid (firstErr (keyF S H) 0=0):=Lib.hid rfl
 clear hlen
 go_wp2
 go_loopw [29] (fun x wr=>∃ i:Nat,i≤S.ds.length∧x = .int .i64 i∧Hid (firstErr (keyF S H) i=0)∧Hid (Below W2.heap.size W2 wr)) (fun x _=>S.ds.length-(intOf x).toNat)
 case atStart=>exact ⟨0,Nat.zero_le _,rfl,HF0,hrefl⟩
 clear s0 s1 s2 s3 h0 hrefl hw2 HF0 q3
 obtain ⟨i,hi,rfl,hF,hW⟩:=hrel
 have HBW:=Lib.hid (below_step HB2.out hW.out)
 obtain ⟨s0,s1,s2,s3⟩:=(C0.out.below hW.out).four
 have hC1:=C1.out.below hW.out
 have h0:wr.cell? ⟨w.heap.size+1,0,none⟩=some (.slice ak H.ks.length ck):=hC1.cell 0
 have h1:wr.cell? ⟨w.heap.size+1,1,none⟩=some (.slice as' H.ss.length cs'):=hC1.cell 1
 have h2:wr.cell? ⟨w.heap.size+1,2,none⟩=some (.slice ac H.cs.length cc):=hC1.cell 2
 clear hC1
 by_cases hid:i<S.ds.length
 ·have hil:i<H.ks.length:=by have:=HL.out;omega
  have hi2:(i:Int)<(H.ks.length:Int):=by omega
  have hi3:(i:Int)<(S.ds.length:Int):=by omega
  obtain ⟨b,o,c,ev,hbl,r0,r1,r2⟩:=(HSP.out.later HBW.out).dAt i hid
  cases ev
  obtain ⟨b',o',c',g,ev,g0,hg⟩:=(HH.out.later HBW.out).keyAt hil
  cases ev
  have hkl:=HM.out.ks i
  have hkf:=keyF_at (H:=H) hid
  obtain ⟨KL,hKL⟩:∃ KL,H.ks.getD i []=KL:=⟨_,rfl⟩
  rw [hKL] at hg hkl hkf
  obtain ⟨av,cv,rfl⟩:=hg.intForm
  clear hKL
  have HR:=Lib.hid (fun (W4:World) (hb4:Below wr.heap.size wr W4) (nn:Nat)=>risS_any KL _ S.ds[i].lo S.ds[i].hi 7 (by decide) (W4.drewN nn) (hg.later (below_drewN hb4 nn)) (by omega))
  rw [← hkf] at HR
  obtain ⟨re,hre⟩:∃ re,keyF S H i=re:=⟨_,rfl⟩
  rw [hre] at HR
  have HRE:=Lib.hid hre
  obtain ⟨lo,hlo⟩:∃ lo,lo=S.ds[i].lo:=⟨_,rfl⟩
  obtain ⟨up,hup⟩:∃ up,up=S.ds[i].hi:=⟨_,rfl⟩
  obtain ⟨dn,hdn⟩:∃ x,S.ds[i].name=x:=⟨_,rfl⟩
  rw [← hlo] at r1 HR
  rw [← hup] at r2 HR
  rw [hdn] at r0
  have hb4:Below wr.heap.size wr (wr.alloc (.cells #[.string dn,.int .i64 lo,.int .i64 up] 109)):=(Below.refl _ wr).alloc (Nat.le_refl _) _
  have HD4:=Lib.hid (Blk.new wr 109 #[.string dn,.int .i64 lo,.int .i64 up])
  have k0:=(hb4.cell (cell_size h0)).trans h0
  have k1:=(hb4.cell (cell_size g0)).trans g0
  have HR4:=Lib.hid (fun nn=>HR.out _ hb4 nn)
  have HW4:=Lib.hid (below_step hW.out hb4)
  clear hlo hup hg hre hkl hkf hdn HR hb4
  go_upto_region 9 with fail
  obtain ⟨P,hP⟩:∃ P,wr.heap.size=P:=⟨_,rfl⟩
  rw [hP] at HD4 ⊢
  generalize wr.alloc (.cells #[.string dn,.int .i64 lo,.int .i64 up] 109)=W4 at *
  have d1:W4.cell? ⟨P,1,none⟩=some (.int .i64 lo):=HD4.out.cell 1
  have d2:W4.cell? ⟨P,2,none⟩=some (.int .i64 up):=HD4.out.cell 2
  clear r0 r1 r2 h0 h1 h2 g0 s0 s1 s2 s3 hP HD4
  go_wp2_with fail
  go_quiet ((go_at_call 75;exact Calls.quiet_of (HR4.out _)))
  have HB3:=Lib.hid (below_drewN HW4.out nq)
  by_cases hrz:re=0
  ·subst hrz
   have HN:=Lib.hid (show firstErr (keyF S H) (i+1)=0 by rw [firstErr_next hF.out,HRE.out])
   go_wp2
   go_roundw
   case rel=>exact ⟨i+1,by omega,by go_num,HN,HB3⟩
   case measure=>simp [intOf];omega
  ·have q4:(re==0)=false:=by simpa using hrz
   have q5:(re != 0)=true:=by simpa using hrz
   have HE:=Lib.hid (hnE_key HCE.out HL.out hid hF.out HRE.out hrz)
   clear hrz
   go_wp2
   go_ret
   exact numR HE.out (below_step HB2.out HB3.out)
 ·have hi2:¬ (i:Int)<(S.ds.length:Int):=by omega
  have HK:=Lib.hid (show firstErr (keyF S H) S.ds.length=0 by rw [show S.ds.length=i by omega];exact hF.out)
  have hl2:=HM.out.ss
  have hl3:=HM.out.cs
  obtain ⟨_,_,hl4,hl5⟩:=sp_lens HCE.out
  obtain ⟨rs,hrs⟩:∃ r,risE H.ss 0 ((S.ss.length:Int)-1) 4=r:=⟨_,rfl⟩
  obtain ⟨rc,hrc⟩:∃ r,risE H.cs 0 ((S.cs.length:Int)-1) 4=r:=⟨_,rfl⟩
  have HRS:=Lib.hid (fun (W3:World) (hb:Below W2.heap.size W2 W3)=>risS_any H.ss _ 0 ((S.ss.length:Int)-1) 4 (by decide) W3 ((HH.out.later (below_step HB2.out hb)).stops) (by omega))
  have HRC:=Lib.hid (fun (W3:World) (hb:Below W2.heap.size W2 W3)=>risS_any H.cs _ 0 ((S.cs.length:Int)-1) 4 (by decide) W3 ((HH.out.later (below_step HB2.out hb)).cous) (by omega))
  rw [hrs] at HRS
  rw [hrc] at HRC
  have HS:=Lib.hid hrs
  have HC:=Lib.hid hrc
  have e1:IntKind.i64.wrap ((S.ss.length:Int)-1)=(S.ss.length:Int)-1:=IntWalk.i64_in _ (by omega)
  have e2:IntKind.i64.wrap ((S.cs.length:Int)-1)=(S.cs.length:Int)-1:=IntWalk.i64_in _ (by omega)
  clear hl2 hl3 hl4 hl5 hrs hrc
  go_wp2_with fail
  refine (HRS.out wr hW.out).mono ?_
  rintro e W3 ⟨rfl,n3,rfl⟩
  have hb3:=below_drewN hW.out n3
  have HB3:=Lib.hid (below_step HB2.out hb3)
  by_cases hrz:rs=0
  ·subst hrz
   have HE:=Lib.hid ((hnE_cou HCE.out HL.out HK.out HS.out).trans HC.out)
   go_wp2_with fail
   refine (HRC.out _ hb3).mono ?_
   rintro e W4 ⟨rfl,n4,rfl⟩
   have HB4:=Lib.hid (below_drewN HB3.out n4)
   go_wp2
   go_ret
   exact numR HE.out (by have:=HB4.out;rwa [World.drewN_drewN] at this)
  ·have q4:(rs==0)=false:=by simpa using hrz
   have q5:(rs != 0)=true:=by simpa using hrz
   have HE:=Lib.hid (hnE_stop HCE.out HL.out HK.out HS.out hrz)
   clear hrz
   go_wp2
   go_ret
   exact numR HE.out HB3.out
open Go.Shelf
def hnOf (S:Sp) (f:Th→Int):Hn:=⟨(List.range S.ds.length).map fun (d:Nat)=>playedL f d,onL f 2 S.ss.length,onL f 3 S.cs.length⟩
theorem hnOf_len (S:Sp) (f:Th→Int):(hnOf S f).ks.length=S.ds.length:=by simp [hnOf]
theorem hnOf_key (S:Sp) (f:Th→Int) {d:Nat} (hd:d<S.ds.length):(hnOf S f).ks.getD d []=playedL f d:=by
 unfold hnOf
 simp [List.getD,hd]
theorem HcRd.hn {W:World} {vk vs vc:Value} {S:Sp} {f:Th→Int} (h:HcRd W vk vs vc S f):HnRd W vk vs vc (hnOf S f):=by
 obtain ⟨⟨g,h1,h2⟩,h3,h4⟩:=h
 refine ⟨⟨g,by rw [hnOf_len];exact h1,fun d hd=>?_⟩,h3,h4⟩
 rw [hnOf_len] at hd
 rw [hnOf_key S f hd]
 exact h2 d hd
theorem risE_of {l:List Int} {lo up bad:Int} (h1:l.Pairwise (· < ·)) (h2:∀ x∈l,lo≤x∧x≤up):risE l lo up bad=0:=by
 unfold risE
 refine firstErr_zero fun i hi=>?_
 have h3:=h2 _ (List.getElem_mem hi)
 rw [risF_in hi (by omega) (by omega)]
 rw [if_neg]
 rintro ⟨h4,h5⟩
 have h6:=List.pairwise_iff_getElem.1 h1 (i-1) i (by omega) hi (by omega)
 rw [getD_int (by omega)] at h5
 omega
theorem hndE_of {S:Sp} {f:Th→Int} (hf:OnOk S f):hndE S (hnOf S f)=0:=by
 have hk:firstErr (keyF S (hnOf S f)) S.ds.length=0:=firstErr_zero fun d hd=>by
  rw [keyF_at hd,hnOf_key S f hd]
  refine risE_of (asc_playedL f d) fun x hx=>?_
  have h1:=(hf.key d x (by rw [(mem_playedL.1 hx).2.2];decide)).1
  unfold keyOk keyIn at h1
  simp only [Bool.and_eq_true,decide_eq_true_eq] at h1
  have h2:=h1.1.2
  simp [hd] at h2
  exact h2
 have hs:risE (hnOf S f).ss 0 ((S.ss.length:Int)-1) 4=0:=risE_of (asc_onL f 2 _) fun x hx=>by
  obtain ⟨h1,h2,_⟩:=mem_onL.1 hx
  omega
 have hc:risE (hnOf S f).cs 0 ((S.cs.length:Int)-1) 4=0:=risE_of (asc_onL f 3 _) fun x hx=>by
  obtain ⟨h1,h2,_⟩:=mem_onL.1 hx
  omega
 unfold hndE
 rw [if_neg (by rw [hnOf_len];simp),if_neg (by rw [hk];simp),if_neg (by rw [hs];simp),hc]
theorem hnE_of {S:Sp} (hc:(checkP S).2=0) {f:Th→Int} (hf:OnOk S f):hnE S (hnOf S f)=0:=by
 unfold hnE
 rw [if_neg (by rw [hc];simp),hndE_of hf]
theorem hnSm_of {S:Sp} (hc:(checkP S).2=0) (f:Th→Int):HnSm (hnOf S f):=by
 obtain ⟨l1,_,l3,l4⟩:=sp_lens hc
 refine ⟨by rw [hnOf_len];omega,fun d=>?_,?_,?_⟩
 ·by_cases hd:d<S.ds.length
  ·rw [hnOf_key S f hd]
   have:(playedL f d).length≤128:=by
    unfold playedL
    refine Nat.le_trans (List.length_filter_le _ _) ?_
    rw [List.length_map,List.length_range]
    exact Nat.le_refl _
   omega
  ·have:(hnOf S f).ks.getD d []=[]:=by
    unfold hnOf
    simp [List.getD,hd]
   rw [this]
   exact Nat.zero_le _
 ·have:=len_onL f 2 S.ss.length
  show (onL f 2 S.ss.length).length≤1000
  omega
 ·have:=len_onL f 3 S.cs.length
  show (onL f 3 S.cs.length).length≤1000
  omega
theorem snd_one {S:Sp} (hc:(checkP S).2=0) {B:(Th→Int)→Pp→Bool} (hB:SndIs S B) {f:Th→Int} {L:List Pp} (ha:L.Pairwise ppLt) (hm:∀ p,p∈L↔Snd S f p):L=sndL S B f:=by
 refine asc_ext ha ((asc_allFrom 0 S.rs).filter _) fun p=>?_
 unfold sndL
 rw [hm p,List.mem_filter,hB f p]
 constructor
 ·intro h
  refine ⟨?_,h⟩
  obtain ⟨i,hi,_,key,_,_,hp⟩:=h
  exact (spGood hc).plays (List.getElem_mem hi) (key:=key) p (by rw [mem_playsL];exact hp)
 ·exact fun h=>h.2
theorem piped_any (SB nr:Nat) (hnr:nr≤40) (m:List Pp) (hm:∀ p∈m,0≤p.1∧p.1<(nr:Int)∧0≤p.2∧p.2<128) (w:World) (hD:Deb w) (hk:KsI w SB nr m) (cap:Nat) (hcap:nr≤cap) :
  Calls Tryz.prog 116 #[.slice (some ⟨SB,0,none⟩) nr cap] w (PidR m nr w) :=
 callsIn_wide.1 (piped_in 6 (Nat.le_refl 6) SB nr hnr m hm w hD hk cap hcap)
theorem pipesS_any (v1 v2 v3 v4:Value) (S:Sp) (ok:SpWk S) (hc:(checkP S).2=0) (fp:Nat→Value) (vk vs vc:Value) (f:Th→Int) (hf:OnOk S f) (B:(Th→Int)→Pp→Bool) (hB:SndIs S B) (w:World) (hD:Deb w) (ht:Tabs w) (hsp:SpRd w v1 v2 v3 v4 fp S) (hcap:∀ i,i<S.ss.length→CapOk (fp i)) (hh:HcRd w vk vs vc S f) :
  Calls Tryz.prog 77 #[.agg #[v1,v2,v3,v4],.agg #[vk,vs,vc]] w (PpsR2 (sndL S B f) w):=by
 obtain ⟨_,l2,_,_⟩:=sp_lens hc
 have hb0:=below_two w (.cells #[v1,v2,v3,v4] 27) (.cells #[vk,vs,vc] 32)
 have HB0:=Lib.hid hb0
 have k0:=(Blk.new w 27 #[v1,v2,v3,v4]).alloc (.cells #[vk,vs,vc] 32)
 have k1:=Blk.new (w.alloc (.cells #[v1,v2,v3,v4] 27)) 32 #[vk,vs,vc]
 rw [World.size_alloc] at k1
 have K0:=Lib.hid k0
 have K1:=Lib.hid k1
 have HCK:=Lib.hid (fun (W:World) (hb:Below w.heap.size w W)=>checkS_any v1 v2 v3 v4 S ok fp vk vs vc (hnOf S f) (hnSm_of hc f) W (ht.below hb) (hsp.later hb) (hh.later hb).hn)
 have HSD:=Lib.hid (fun (W:World) (hb:Below w.heap.size w W)=>soundsS_any v1 v2 v3 v4 vk vs vc S hc fp f hf W (hD.below hb) (hsp.later hb) hcap (hh.later hb))
 have HPD:=Lib.hid (fun (W:World) (hb:Below w.heap.size w W) (SB:Nat) (m:List Pp) (hm:∀ p,p∈m↔Snd S f p) (hk:KsI W SB S.rs.length m)=>piped_any SB S.rs.length l2 m (fun p hp=>by
  obtain ⟨i,hi,_,key,_,_,hp⟩:=(hm p).1 hp
  exact pipe_in hc ((spGood hc).plays (List.getElem_mem hi) (key:=key) p (by rw [mem_playsL];exact hp))) W (hD.below hb) hk S.rs.length (Nat.le_refl _))
 have HE:=hnE_of hc hf
 have HON:=Lib.hid (fun (L:List Pp) (ha:L.Pairwise ppLt) (hm:∀ p,p∈L↔Snd S f p)=>snd_one hc hB ha hm)
 rw [HE] at HCK
 clear hb0 k0 k1 hsp hh hD ht hcap HE hc hf hB
 go_enter Tryz.func77,Tryz.ntmps77
 go_wp2_with fail
 refine (HCK.out _ HB0.out).mono ?_
 rintro e W ⟨rfl,hb⟩
 have HB2:=Lib.hid (below_step HB0.out hb)
 obtain ⟨s0,s1,s2,s3⟩:=(K0.out.below hb).four
 have h0:=(K1.out.below hb).cell 0
 have h1:=(K1.out.below hb).cell 1
 have h2:=(K1.out.below hb).cell 2
 simp only [List.getElem?_toArray,List.getElem?_cons_zero,List.getElem?_cons_succ] at h0 h1 h2
 clear HCK K0 K1 HB0 hb
 go_wp2_with fail
 refine (HSD.out _ HB2.out).mono ?_
 rintro e W3 ⟨SB,m,rfl,hlo,hks,hm,hb3⟩
 have HB3:=Lib.hid (below_step HB2.out hb3)
 have HPX:=Lib.hid (HPD.out W3 HB3.out SB m hm hks)
 have HM:=Lib.hid hm
 clear hlo hks hm hb3 HSD HPD s0 s1 s2 s3 h0 h1 h2
 go_wp2_with fail
 refine HPX.out.mono ?_
 rintro e W4 ⟨v,L,rfl,hrow,hasc,hmem,hlen,hb4⟩
 have HR:=Lib.hid (show w.heap.size≤W3.heap.size∧PpsR2 (sndL S B f) w (.returned (.tuple #[v,.int .i64 0])) W4 from by
  rw [← HON.out L hasc fun p=>(hmem p).trans (HM.out p)]
  exact ⟨HB3.out.size,v,rfl,row_base hrow HB3.out.size,below_step HB3.out hb4⟩)
 clear hrow hasc hmem hlen hb4
 go_wp2
 go_ret2
 exact HR.out.2
theorem has_out {S:Sp} {p:Pp} (h:p.1<0∨(S.rs.length:Int)≤p.1):decide (p∈allFrom 0 S.rs)=false:=by
 rw [decide_eq_false_iff_not]
 intro hp
 obtain ⟨k,hk,h1,_⟩:=mem_allFrom.1 hp
 omega
theorem has_in {S:Sp} (hc:(checkP S).2=0) {k:Nat} (hk:k<S.rs.length) {t:Int}:decide ((((k:Int),t):Pp)∈allFrom 0 S.rs)=(decide (S.rs[k].low≤t)&&decide (t<S.rs[k].low+S.rs[k].cnt))∧0≤S.rs[k].low∧S.rs[k].low+S.rs[k].cnt≤128∧1≤S.rs[k].cnt:=by
 have hr:=(spGood hc).r _ (List.getElem_mem hk)
 unfold rkE at hr
 have h1:1≤S.rs[k].cnt∧S.rs[k].cnt≤97∧0≤S.rs[k].low∧S.rs[k].low+S.rs[k].cnt≤128:=by
  repeat' split at hr
  all_goals first | assumption | cases hr
 refine ⟨?_,by omega,by omega,by omega⟩
 rw [Bool.eq_iff_iff,decide_eq_true_iff,Bool.and_eq_true,decide_eq_true_iff,decide_eq_true_iff,mem_allFrom]
 constructor
 ·rintro ⟨j,hj,e,h2,h3⟩
  have:j=k:=by simp only at e;omega
  subst this
  exact ⟨h2,by simp only at h3;omega⟩
 ·rintro ⟨h2,h3⟩
  exact ⟨k,hk,by simp,h2,by simp only;omega⟩
theorem has_any (v1 v2 v3 v4:Value) (S:Sp) (hc:(checkP S).2=0) (fp:Nat→Value) (w:World) (hsp:SpRd w v1 v2 v3 v4 fp S) (a t:Int) :
  Calls Tryz.prog 45 #[.agg #[v1,v2,v3,v4],.agg #[.int .i64 a,.int .i64 t]] w fun e w'=>e = .returned (.bool (decide (((a,t):Pp)∈allFrom 0 S.rs)))∧Below w.heap.size w w':=by
 obtain ⟨_,⟨a2,c2,rfl⟩,_,_⟩:=hsp.forms
 obtain ⟨_,l2,_,_⟩:=sp_lens hc
 by_cases h1:a<0
 ·have h2:=has_out (S:=S) (p:=(a,t)) (.inl h1)
  have hb:=below_two w (.cells #[v1,.slice a2 S.rs.length c2,v3,v4] 27) (.cells #[.int .i64 a,.int .i64 t] 78)
  rw [h2]
  clear hsp h2 hc
  go_enter Tryz.func45,Tryz.ntmps45
  go_wp2
  go_ret
  exact ⟨rfl,hb⟩
 obtain ⟨k,rfl⟩:=Int.eq_ofNat_of_zero_le (show 0≤a by omega)
 by_cases h2:k<S.rs.length
 ·have h3:¬ (S.rs.length:Int)≤(k:Int):=by omega
  have h4:(k:Int)<(S.rs.length:Int):=by omega
  obtain ⟨b,o,c,ev,hbl,r0,r1,r2,r3,r4,r5⟩:=hsp.rAt k h2
  cases ev
  obtain ⟨e1,e2,e3,e4⟩:=has_in (t:=t) hc h2
  rw [e1]
  obtain ⟨r,hr⟩:∃ r,S.rs[k]=r:=⟨_,rfl⟩
  rw [hr] at r0 r1 r2 r3 r4 r5 e2 e3 e4 ⊢
  obtain ⟨lo,hlo⟩:∃ x,r.low=x:=⟨_,rfl⟩
  obtain ⟨ct,hct⟩:∃ x,r.cnt=x:=⟨_,rfl⟩
  rw [hlo] at r4 e2 e3 ⊢
  rw [hct] at r5 e3 e4 ⊢
  have e5:IntKind.i64.wrap (lo+ct)=lo+ct:=IntWalk.i64_in _ (by omega)
  have hb:=(below_two w (.cells #[v1,.slice (some ⟨b,o,none⟩) S.rs.length c2,v3,v4] 27) (.cells #[.int .i64 (k:Int),.int .i64 t] 78)).alloc (by simp;omega) (.cells #[.string r.name,.int .i64 r.kind,.int .i64 r.num,.int .i64 r.den,.int .i64 lo,.int .i64 ct] 63)
  clear hsp hc hr e1
  by_cases c1:lo≤t
  ·have d1:decide (lo≤t)=true:=decide_eq_true c1
   rw [d1,Bool.true_and]
   go_enter Tryz.func45,Tryz.ntmps45
   go_wp2
   go_ret
   exact ⟨rfl,hb⟩
  ·have d1:decide (lo≤t)=false:=decide_eq_false c1
   rw [d1,Bool.false_and]
   go_enter Tryz.func45,Tryz.ntmps45
   go_wp2
   go_ret
   exact ⟨rfl,hb⟩
 ·have h3:(S.rs.length:Int)≤(k:Int):=by omega
  have h5:=has_out (S:=S) (p:=((k:Int),t)) (.inr h3)
  have hb:=below_two w (.cells #[v1,.slice a2 S.rs.length c2,v3,v4] 27) (.cells #[.int .i64 (k:Int),.int .i64 t] 78)
  rw [h5]
  clear hsp h5 hc
  go_enter Tryz.func45,Tryz.ntmps45
  go_wp2
  go_ret
  exact ⟨rfl,hb⟩
theorem opp_bits {k a t:Int} (hk:1≤k∧k≤6):wrap64 (bits BinOp.xor IntKind.i64 (k-1) 1+1)=(opp (k,a,t)).1:=by
 have:k=1∨k=2∨k=3∨k=4∨k=5∨k=6:=by omega
 unfold opp
 simp only
 rcases this with rfl | rfl | rfl | rfl | rfl | rfl <;> decide +kernel
theorem ft_size {n:Nat} (h:n=3):(Tryz.prog.info? 74).map (·.size)=some n:=by rw [h];kernel_rfl
theorem has30_any (v1 v2 v3 v4:Value) (S:Sp) (hc:(checkP S).2=0) (fp:Nat→Value) (w:World) (hsp:SpRd w v1 v2 v3 v4 fp S) (a t:Int) :
  Calls Tryz.prog 64 #[.agg #[v1,v2,v3,v4],.agg #[.int .i64 a,.int .i64 t]] w fun e w'=>e = .returned (.bool (decide (((a,t):Pp)∈allFrom 0 S.rs)))∧Below w.heap.size w w':=by
 obtain ⟨_,⟨a2,c2,rfl⟩,_,_⟩:=hsp.forms
 obtain ⟨_,l2,_,_⟩:=sp_lens hc
 by_cases h1:a<0
 ·have h2:=has_out (S:=S) (p:=(a,t)) (.inl h1)
  have hb:=below_two w (.cells #[v1,.slice a2 S.rs.length c2,v3,v4] 27) (.cells #[.int .i64 a,.int .i64 t] 78)
  rw [h2]
  clear hsp h2 hc
  go_enter Tryz.func64,Tryz.ntmps64
  go_wp2
  go_ret
  exact ⟨rfl,hb⟩
 obtain ⟨k,rfl⟩:=Int.eq_ofNat_of_zero_le (show 0≤a by omega)
 by_cases h2:k<S.rs.length
 ·have h3:¬ (S.rs.length:Int)≤(k:Int):=by omega
  have h4:(k:Int)<(S.rs.length:Int):=by omega
  obtain ⟨b,o,c,ev,hbl,r0,r1,r2,r3,r4,r5⟩:=hsp.rAt k h2
  cases ev
  obtain ⟨e1,e2,e3,e4⟩:=has_in (t:=t) hc h2
  rw [e1]
  obtain ⟨r,hr⟩:∃ r,S.rs[k]=r:=⟨_,rfl⟩
  rw [hr] at r0 r1 r2 r3 r4 r5 e2 e3 e4 ⊢
  obtain ⟨lo,hlo⟩:∃ x,r.low=x:=⟨_,rfl⟩
  obtain ⟨ct,hct⟩:∃ x,r.cnt=x:=⟨_,rfl⟩
  rw [hlo] at r4 e2 e3 ⊢
  rw [hct] at r5 e3 e4 ⊢
  have e5:IntKind.i64.wrap (lo+ct)=lo+ct:=IntWalk.i64_in _ (by omega)
  have hb:=(below_two w (.cells #[v1,.slice (some ⟨b,o,none⟩) S.rs.length c2,v3,v4] 27) (.cells #[.int .i64 (k:Int),.int .i64 t] 78)).alloc (by simp;omega) (.cells #[.string r.name,.int .i64 r.kind,.int .i64 r.num,.int .i64 r.den,.int .i64 lo,.int .i64 ct] 63)
  clear hsp hc hr e1
  by_cases c1:lo≤t
  ·have d1:decide (lo≤t)=true:=decide_eq_true c1
   rw [d1,Bool.true_and]
   go_enter Tryz.func64,Tryz.ntmps64
   go_wp2
   go_ret
   exact ⟨rfl,hb⟩
  ·have d1:decide (lo≤t)=false:=decide_eq_false c1
   rw [d1,Bool.false_and]
   go_enter Tryz.func64,Tryz.ntmps64
   go_wp2
   go_ret
   exact ⟨rfl,hb⟩
 ·have h3:(S.rs.length:Int)≤(k:Int):=by omega
  have h5:=has_out (S:=S) (p:=((k:Int),t)) (.inr h3)
  have hb:=below_two w (.cells #[v1,.slice a2 S.rs.length c2,v3,v4] 27) (.cells #[.int .i64 (k:Int),.int .i64 t] 78)
  rw [h5]
  clear hsp h5 hc
  go_enter Tryz.func64,Tryz.ntmps64
  go_wp2
  go_ret
  exact ⟨rfl,hb⟩
theorem before30_any (a b x y:Int) (w:World):Calls Tryz.prog 96 #[.agg #[.int .i64 a,.int .i64 b],.agg #[.int .i64 x,.int .i64 y]] w fun e w'=>e = .returned (.bool (decide (ppLt (a,b) (x,y))))∧Below w.heap.size w w':=by
 have HB:=Lib.hid (below_two w (.cells #[.int .i64 a,.int .i64 b] 78) (.cells #[.int .i64 x,.int .i64 y] 78))
 by_cases h1:a<x
 ·have HR:=Lib.hid (show decide (ppLt (a,b) (x,y))=true from decide_eq_true (.inl h1))
  have d1:decide (a<x)=true:=decide_eq_true h1
  rw [HR.out]
  clear h1
  go_enter Tryz.func96,Tryz.ntmps96
  go_wp2
  go_ret
  exact ⟨rfl,HB.out⟩
 have d1:decide (a<x)=false:=decide_eq_false h1
 by_cases h2:a=x
 ·have d2:(a==x)=true:=by rw [h2];exact beq_self_eq_true _
  by_cases h3:b<y
  ·have d3:decide (b<y)=true:=decide_eq_true h3
   have HR:=Lib.hid (show decide (ppLt (a,b) (x,y))=true from decide_eq_true (.inr ⟨h2,h3⟩))
   rw [HR.out]
   clear h1 h2 h3
   go_enter Tryz.func96,Tryz.ntmps96
   go_wp2
   go_ret
   exact ⟨rfl,HB.out⟩
  ·have d3:decide (b<y)=false:=decide_eq_false h3
   have HR:=Lib.hid (show decide (ppLt (a,b) (x,y))=false from decide_eq_false (fun h=>h.elim h1 (fun h=>h3 h.2)))
   rw [HR.out]
   clear h1 h2 h3
   go_enter Tryz.func96,Tryz.ntmps96
   go_wp2
   go_ret
   exact ⟨rfl,HB.out⟩
 ·have d2:(a==x)=false:=by rw [beq_eq_false_iff_ne];exact h2
  have HR:=Lib.hid (show decide (ppLt (a,b) (x,y))=false from decide_eq_false (fun h=>h.elim h1 (fun h=>h2 h.1)))
  rw [HR.out]
  clear h1 h2
  go_enter Tryz.func96,Tryz.ntmps96
  go_wp2
  go_ret
  exact ⟨rfl,HB.out⟩
end Go.Proofs.YteflhbfgpknabaaGreatDoor
namespace Go.Proofs.YteflhbfgpknabaaGreatDoor
open Go.RowKit
section
variable {α : Type} [Inhabited α]
theorem flatK_at {enc:α→List Value} {k:Nat} (hk:∀ x,(enc x).length=k):∀ (l:List α) (t:Nat),t<l.length * k→((l.map enc).flatten)[t]?=some (enc l[t / k]!)[t % k]!
 | [],t,h=>by simp at h
 | a :: l,t,h=>by
  have ha:=hk a
  rw [List.map_cons,List.flatten_cons]
  by_cases hlt:t<k
  ·rw [List.getElem?_append_left (by omega),Nat.div_eq_of_lt hlt,Nat.mod_eq_of_lt hlt,List.getElem?_eq_getElem (by omega)]
   simp [List.getElem!_eq_getElem?_getD,List.getElem?_eq_getElem (show t<(enc a).length by omega)]
  ·have k0:0<k:=by
    rcases Nat.eq_zero_or_pos k with h0 | h0
    ·subst h0;simp at h
    ·exact h0
   rw [List.getElem?_append_right (by omega),ha,flatK_at hk l (t-k) (by rw [List.length_cons,Nat.add_mul] at h;omega)]
   have e1:t / k=(t-k) / k+1:=by
    rw [← Nat.add_div_right _ k0];congr 1;omega
   have e2:t % k=(t-k) % k:=by
    rw [Nat.mod_eq_sub_mod (by omega)]
   rw [e1,e2]
   simp
theorem flatK_list {enc:α→List Value} {k:Nat} (hk:∀ x,(enc x).length=k) (d:Array α):(Sort.flatK enc k d).toList=(d.toList.map enc).flatten:=by
 apply List.ext_getElem?
 intro t
 have hl:((d.toList.map enc).flatten).length=d.size * k:=by
  have:∀ l:List α,((l.map enc).flatten).length=l.length * k:=by
   intro l
   induction l with
   | nil=>simp
   | cons a l ih=>rw [List.map_cons,List.flatten_cons,List.length_append,hk,ih,List.length_cons,Nat.add_mul];omega
  rw [this,Array.length_toList]
 by_cases h:t<d.size * k
 ·rw [flatK_at hk d.toList t (by rw [Array.length_toList];exact h),Array.getElem?_toList,Array.getElem?_eq_getElem (by rw [Sort.size_flatK];exact h)]
  have:=Sort.get_flatK enc k d t h
  rw [getElem!_pos _ t (by rw [Sort.size_flatK];exact h)] at this
  rw [this,show d.toList[t / k]! = d[t / k]! by simp [List.getElem!_eq_getElem?_getD,Array.getElem!_eq_getD,Array.getD_eq_getD_getElem?]]
 ·rw [List.getElem?_eq_none (by rw [Array.length_toList,Sort.size_flatK];omega),List.getElem?_eq_none (by rw [hl];omega)]
theorem holdsK_row {W:World} {base g:Nat} {t:TypeId} {k n cap:Nat} {enc:α→List Value} (hk:∀ x,(enc x).length=k) {d:Array α} (h:W.ownsRow base t k (.slice (some ⟨g,0,none⟩) n cap) d.size (d.toList.map enc).flatten):Sort.HoldsK enc k W g 0 d∧g<W.heap.size:=by
 obtain ⟨hl,⟨e,_⟩ | ⟨g',cap',cur,e,_,hg,hn,_,hz,hx⟩⟩:=h
 ·cases e
 ·cases e
  refine ⟨fun j hj=>?_,(Array.getElem?_eq_some_iff.1 hg).1⟩
  rw [Sort.size_flatK] at hj
  have hjc:j<cur.size:=by
   have:d.size * k≤cap * k:=Nat.mul_le_mul_right k hn
   omega
  have hj2:(Sort.flatK enc k d)[j]?=cur[j]?:=by
   rw [← Array.getElem?_toList,flatK_list hk,← hx,List.getElem?_take,if_pos hj,Array.getElem?_toList]
  constructor
  ·simp only [World.cell?,hg,Nat.zero_add]
   show cur[j]?=_
   rw [← hj2,Array.getElem?_eq_getElem (by rw [Sort.size_flatK];exact hj),getElem!_pos _ j (by rw [Sort.size_flatK];exact hj)]
   rfl
  ·simp only [World.frozen?,hg]
   rfl
theorem sorted_heap {enc:α→List Value} {k:Nat} {W:World} {g n:Nat} {d:Array α} {os:Array Obj} {cur:Array Value} {e:TypeId} {fr:Nat × Nat} (h:W.heap[g]?=some (.cells cur e fr)) :
  (sortWorldK enc k W g 0 n d os).heap[g]?=some (.cells (Sort.putCells id 0 (Sort.flatK enc k d) cur) e fr):=by
 have hlt:=(Array.getElem?_eq_some_iff.1 h).1
 show (((Sort.mapBlock (Sort.ahead W n) g _).heap)++os)[g]?=_
 rw [Array.getElem?_append_left (by simpa [Sort.mapBlock] using hlt)]
 show ((Sort.ahead W n).heap.modify g _)[g]?=_
 rw [Array.getElem?_modify,if_pos rfl]
 show Option.map _ (W.heap[g]?)=_
 simp only [h,Option.map_some]
 rfl
theorem sorted_grown {enc:α→List Value} {k:Nat} {W:World} {g n:Nat} {d:Array α} {os:Array Obj}:W.grownBy (sortWorldK enc k W g 0 n d os) (some g) where
 os:=rfl
 tape:=rfl
 output:=rfl
 size:=by
  show W.heap.size≤(((Sort.ahead W n).heap.modify g _)++os).size
  rw [Array.size_append,Array.size_modify]
  exact Nat.le_add_right _ _
 block i hi hne:=by
  show (((Sort.ahead W n).heap.modify g _)++os)[i]?=W.heap[i]?
  rw [Array.getElem?_append_left (by rw [Array.size_modify];exact hi),Array.getElem?_modify,if_neg (fun e=>hne (by rw [e]))]
  rfl
theorem sorted_row {W:World} {base g:Nat} {t:TypeId} {k m cap n:Nat} {enc:α→List Value} (hk:∀ x,(enc x).length=k) {d d':Array α} {os:Array Obj} (hs:d'.size=d.size) (h:W.ownsRow base t k (.slice (some ⟨g,0,none⟩) m cap) d.size (d.toList.map enc).flatten) :
  (sortWorldK enc k W g 0 n d' os).ownsRow base t k (.slice (some ⟨g,0,none⟩) m cap) d'.size (d'.toList.map enc).flatten:=by
 obtain ⟨hl,⟨e,_⟩ | ⟨g',cap',cur,e,hbg,hg,hn,hmx,hz,hx⟩⟩:=h
 ·cases e
 ·cases e
  have hle:d'.size * k≤cur.size:=by rw [hz,hs];exact Nat.mul_le_mul_right k hn
  refine ⟨?_,.inr ⟨g,cap,_,by rw [hs],hbg,sorted_heap hg,by rw [hs];exact hn,hmx,by simp [Sort.putCells,hz],?_⟩⟩
  ·rw [← flatK_list hk,Array.length_toList,Sort.size_flatK]
  ·rw [← flatK_list hk]
   apply List.ext_getElem?
   intro t
   rw [List.getElem?_take,Array.getElem?_toList,Array.getElem?_toList]
   by_cases ht:t<d'.size * k
   ·rw [if_pos ht]
    simp only [Sort.putCells,Array.getElem?_mapIdx]
    rw [Array.getElem?_eq_getElem (by omega),Option.map_some,if_pos ⟨Nat.zero_le _,by rw [Sort.size_flatK];omega⟩,Nat.sub_zero,getElem!_pos _ t (by rw [Sort.size_flatK];exact ht),Array.getElem?_eq_getElem (by rw [Sort.size_flatK];exact ht)]
    rfl
   ·rw [if_neg ht,Array.getElem?_eq_none (by rw [Sort.size_flatK];omega)]
end
theorem ARd.of_blkI {W:World} {B:Nat} {t:TypeId} {cs:Array Value} (h:Blk W B t cs) {l:List Int} (hcs:cs.toList=iCs l) (n c:Nat) (hn:n=l.length):ARd W (.slice (some ⟨B,0,none⟩) n c) 1 (l.map iC):=by
 subst hn
 refine ⟨_,_,by rw [List.length_map],fun i hi=>⟨B,0,rfl,h.lt,fun j u hj=>?_⟩⟩
 rw [List.getElem_map] at hj
 have hi':i<l.length:=by simpa using hi
 have hj0:j=0:=by
  have:=(List.getElem?_eq_some_iff.1 hj).1
  simpa [iC] using this
 subst hj0
 have e:cs[i]?=some (.int .i64 l[i]):=by
  rw [← Array.getElem?_toList,hcs,iCs,List.getElem?_map,List.getElem?_eq_getElem hi'];rfl
 rw [Nat.zero_add,h.cell,Nat.mul_one,Nat.add_zero,e]
 exact hj
def Grw (W W':World):Prop:=∃ q os,W'=Sort.grow (W.drewN q) os
theorem Grw.refl (W:World):Grw W W:=⟨0,#[],by rw [Sort.grow_empty];rfl⟩
theorem Grw.alloc {W W':World} (h:Grw W W') (o:Obj):Grw W (W'.alloc o):=by
 obtain ⟨q,os,rfl⟩:=h
 exact ⟨q,os ++ #[o],by rw [Sort.alloc_eq_grow,Sort.grow_grow]⟩
theorem Grw.drew {W W':World} (h:Grw W W'):Grw W W'.drew:=by
 obtain ⟨q,os,rfl⟩:=h
 exact ⟨q+1,os,rfl⟩
theorem Grw.trans {A B C:World} (h:Grw A B) (k:Grw B C):Grw A C:=by
 obtain ⟨q,os,rfl⟩:=h
 obtain ⟨r,os',rfl⟩:=k
 refine ⟨q+r,os++os',?_⟩
 rw [← Sort.grow_grow]
 simp only [World.drewN,Sort.grow,Nat.add_assoc]
theorem Grw.below {W W':World} (h:Grw W W'):Below W.heap.size W W':=by
 obtain ⟨q,os,rfl⟩:=h
 refine ⟨rfl,rfl,rfl,?_,fun i hi=>?_⟩
 ·show W.heap.size≤(W.heap++os).size
  rw [Array.size_append];omega
 ·show (W.heap++os)[i]?=_
  exact Array.getElem?_append_left hi
end Go.Proofs.YteflhbfgpknabaaGreatDoor
