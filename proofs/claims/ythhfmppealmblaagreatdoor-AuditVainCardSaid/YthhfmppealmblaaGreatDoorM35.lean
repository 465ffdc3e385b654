/-
  A part of the proof: AJ8, KW, AK3, AK0.
-/
import Derived.Test.YthhfmppealmblaaGreatDoorM34
import Derived.Test.YthhfmppealmblaaGreatDoorM19
import Derived.Test.YthhfmppealmblaaGreatDoorM09
import Derived.Test.YthhfmppealmblaaGreatDoorM21
namespace Go.Proofs.YthhfmppealmblaaGreatDoor
open Go.RowKit
def PpsR2 (m:List Pp) (w:World) (e:Ending) (w':World):Prop:=∃ v,e = .returned (.tuple #[v,.int .i64 0])∧w'.ownsRow w.heap.size 45 2 v m.length (ppCs m)∧Below w.heap.size w w'
theorem ARd.dbAt {w:World} {v:Value} {l:List (Pp × Int)} (h:ARd w v 3 (l.map dbC)) (i:Nat) (hi:i<l.length):∃ b o c,v = .slice (some ⟨b,o,none⟩) l.length c∧b<w.heap.size∧w.cell? ⟨b,o+i * 3,none⟩=some (.int .i64 l[i].1.1)∧w.cell? ⟨b,o+i * 3+1,none⟩=some (.int .i64 l[i].1.2):=by
  obtain ⟨b,o,c,e,hlt,hc⟩:=h.at i (by simpa using hi)
  rw [List.getElem_map] at hc
  rw [List.length_map] at e
  exact ⟨b,o,c,e,hlt,hc 0 _ rfl,hc 1 _ rfl⟩
theorem sndL_len {S:Sp} (hc:(checkP S).2=0) (B:(Th→Int)→Pp→Bool) (f:Th→Int):(sndL S B f).length≤4000:=by
  have hsg:=spGood hc
  have h1:=allFrom_len hsg.r 0
  have h2:=List.length_filter_le (B f) (allFrom 0 S.rs)
  have:=hsg.rs
  unfold sndL
  omega
set_option maxRecDepth 100000 in
set_option maxHeartbeats 6400000 in
theorem pipes12_any (v1 v2 v3 v4:Value) (S:Sp) (ok:SpOk S) (hc:(checkP S).2=0) (fp:Nat→Value) (vk vs vc:Value) (f:Th→Int) (hf:OnOk S f) (B:(Th→Int)→Pp→Bool) (hB:SndIs S B) (w:World) (hsp:SpRd w v1 v2 v3 v4 fp S) (hh:HdRd w vk vs vc S f) :
    Calls Tryz.prog 51 #[.agg #[v1,v2,v3,v4],.agg #[vk,vs,vc]] w (PpsR2 (sndL S B f) w):=by
  obtain ⟨i0,hi0,hz0,hz1,hz2⟩:=info_parts pp_info
  have hln:=sndL_len hc B f
  have HSP:=Lib.hid hsp
  have HH:=Lib.hid hh
  have b0:=(Blk.new w 27 #[v1,v2,v3,v4]).alloc (.cells #[vk,vs,vc] 70)
  have b1:=Blk.new (w.alloc (.cells #[v1,v2,v3,v4] 27)) 70 #[vk,vs,vc]
  rw [World.size_alloc] at b1
  have HB:=Lib.hid (below_two w (.cells #[v1,v2,v3,v4] 27) (.cells #[vk,vs,vc] 70))
  have B0:=Lib.hid b0
  have B1:=Lib.hid b1
  have HCK:=Lib.hid (fun (W:World) (hb:Below w.heap.size w W)=>check12_ok v1 v2 v3 v4 S ok hc fp vk vs vc f hf W (hsp.later hb) (hh.later hb))
  have HCH:=Lib.hid (fun (W:World) (hb:Below w.heap.size w W)=>chains_any v1 v2 v3 v4 S ok hc fp vk vs vc f hf W (hsp.later hb) (hh.later hb))
  have HSO:=Lib.hid (fun (W:World) (base LB:Nat) (rb:Nat→Nat) (G:Gr) (hb:Below w.heap.size w W) (hg:GrI base S.ds.length S.ds.length LB rb G W) (hG:∀ q,G q≠none ↔ Acts S f q)=>sounds_any v1 v2 v3 v4 S hc fp vk vs vc f B hB base LB rb G hG W (hsp.later hb) (hh.later hb) hg)
  clear hsp hh b0 b1 ok hc hf hB
  obtain ⟨s0,s1,s2,s3⟩:=B0.out.four
  have h0:=B1.out.cell 0
  have h1:=B1.out.cell 1
  have h2:=B1.out.cell 2
  simp only [List.getElem?_toArray,List.getElem?_cons_zero,List.getElem?_cons_succ] at h0 h1 h2
  go_enter Tryz.func51,Tryz.ntmps51
  go_wp2_with fail
  refine (HCK.out _ HB.out).mono ?_
  rintro e W ⟨rfl,hb⟩
  have HB2:=Lib.hid (below_step HB.out hb)
  have hdr:=hold7 (W0:=W) ⟨Below.refl _ W,(B0.out.below hb).cell 0,(B0.out.below hb).cell 1,(B0.out.below hb).cell 2,(B0.out.below hb).cell 3,(B1.out.below hb).cell 0,(B1.out.below hb).cell 1,(B1.out.below hb).cell 2⟩ ((Below.refl _ W).drew)
  clear s0 s1 s2 s3 h0 h1 h2 HCK B0 B1 HB hb
  go_wp2_with fail
  go_region_held3 (fun w'=>Below W.heap.size W w'∧w'.cell? ⟨w.heap.size,0,none⟩=some v1∧w'.cell? ⟨w.heap.size,1,none⟩=some v2∧w'.cell? ⟨w.heap.size,2,none⟩=some v3∧w'.cell? ⟨w.heap.size,3,none⟩=some v4∧w'.cell? ⟨w.heap.size+1,0,none⟩=some vk∧w'.cell? ⟨w.heap.size+1,1,none⟩=some vs∧w'.cell? ⟨w.heap.size+1,2,none⟩=some vc) (first | exact hdr | assumption) (first | (go_at_call 85;(with_reducible refine (HCH.out _ (below_step HB2.out hdr.1)).mono ?_);rintro e w2 ⟨LB,rb,G,rfl,hg2,hG2,hb2⟩;have hn:=hold7 hdr hb2;clear hb2) | (go_at_call 84;(with_reducible refine (HSO.out _ _ _ _ _ (below_step HB2.out hn.1) hg2 hG2).mono ?_);rintro e w3 ⟨va,D,rfl,hrow,hD,hb3⟩;have hn3:=hold7 hn hb3;clear hb3))
  have HB3:=Lib.hid (below_step HB2.out hn3.1)
  have hDl:D.length≤4000:=by rw [← List.length_map (f:=(·.1)),hD];exact hln
  have HDA:=Lib.hid (ARd.of_dbs hrow)
  obtain ⟨aa,ca,eva⟩:=HDA.out.form
  rw [List.length_map] at eva
  subst eva
  have HDM:=Lib.hid hD
  have HR0:=Lib.hid (show w3.ownsRow w3.heap.size 45 2 (.slice none 0 0) ((D.take 0).map (·.1)).length (ppCs ((D.take 0).map (·.1))) from World.ownsRow_nil _ _ _ _)
  have HB0:=Lib.hid (Below.refl w3.heap.size w3)
  clear hdr hn hn3 hg2 hG2 hrow hD HCH HSO
  go_wp2
  go_loopw [8,9] (fun v x wr=>∃ i:Nat,i≤D.length∧x = .int .i64 i∧RowKit.Hid (wr.ownsRow w3.heap.size 45 2 v ((D.take i).map (·.1)).length (ppCs ((D.take i).map (·.1))))∧RowKit.Hid (Below w3.heap.size w3 wr)) (fun _ x _=>D.length-(intOf x).toNat)
  case atStart=>exact ⟨0,Nat.zero_le _,rfl,HR0,HB0⟩
  clear HR0 HB0
  obtain ⟨i,hi,rfl,hrow,hB⟩:=hrel
  by_cases hil:i<D.length
  · have hi2:(i:Int)<(D.length:Int):=by omega
    obtain ⟨b,o,c',ev,hbl,k0,k1⟩:=(HDA.out.later hB.out).dbAt i hil
    cases ev
    have HN:=Lib.hid (show (D.take (i+1)).map (·.1)=(D.take i).map (·.1)++[D[i].1] by rw [List.take_succ_eq_append_getElem hil,List.map_append];rfl)
    have hlen:((D.take i).map (·.1)).length≤4000:=by rw [List.length_map,List.length_take];omega
    obtain ⟨p,hp⟩:∃ p,D[i].1=p:=⟨_,rfl⟩
    rw [hp] at k0 k1 HN
    obtain ⟨M,hM⟩:∃ M,(D.take i).map (·.1)=M:=⟨_,rfl⟩
    rw [hM] at hrow hlen HN
    have hsz:=hB.out.size
    clear hp hM
    go_wp2_with (at_builtin;refine wpList_append_lies _ rfl _ _ 48 rfl w3.heap.size 45 i0 _ 2 16 Tryz.underlying48 hi0 hz0 hz1 hz2 rfl (by omega) _ _ _ rfl (hrow.out.alloc _) ⟨wr.heap.size,0,none⟩ 1 1 [.int .i64 p.1,.int .i64 p.2] rfl rfl (World.news_of_block (cs:=#[.int .i64 p.1,.int .i64 p.2]) (t:=45) (fr:=(0,0)) (heap_alloc_new wr _)) (by simp [Value.oneCell']) (by omega) (by unfold maxLen;omega) (by omega) (by simp;omega) (wr.heap.size+1) (by simp) ?_;intro gg cap w4 hown3 hgrow hat3 hlt3)
    have HP:=Lib.hid (pps_step (l:=M) (p:=p) hown3 rfl)
    rw [← HN.out] at HP
    have HB4:=Lib.hid (push_low hB.out hrow.out hgrow)
    clear hown3 hgrow hat3 hlt3
    go_wp2
    go_roundw
    case rel=>exact ⟨i+1,by omega,by go_num,by have:=HP.out;rw [HN.out] at this ⊢;simpa only [List.length_append] using Lib.hid this,HB4⟩
    case measure=>simp [intOf];omega
  · have hi2:¬ (i:Int)<(D.length:Int):=by omega
    have hie:i=D.length:=by omega
    rw [hie,List.take_length,HDM.out] at hrow
    clear hie
    go_wp2
    go_ret2
    exact ⟨_,rfl,row_base hrow.out HB3.out.size,below_step HB3.out hB.out⟩
end Go.Proofs.YthhfmppealmblaaGreatDoor
namespace Go.Proofs.YthhfmppealmblaaGreatDoor
open Go.RowKit
section
variable {P : Program} {md : Region.Mode} {ops : Array Oper} {Q : Exit → Act → World → Prop}
end
end Go.Proofs.YthhfmppealmblaaGreatDoor
namespace Go.Proofs.YthhfmppealmblaaGreatDoor
open Go.RowKit
theorem clsE_ne {S:Sp} {l:List Ev} {cls:List Cl} (h:audE S l≠0):clsE S l cls=audE S l:=if_neg h
theorem clsE_long {S:Sp} {l:List Ev} {cls:List Cl} (h:audE S l=0) (h2:20000<cls.length):clsE S l cls=3:=by unfold clsE;rw [if_pos h,if_pos h2]
theorem clsE_at {S:Sp} {l:List Ev} {cls:List Cl} (h:audE S l=0) (h2:cls.length≤20000) {i:Nat} (hi:i<cls.length) (h3:∀ j (hj:j<cls.length),j<i→clE S cls[j]=0) (h4:clE S cls[i]≠0):clsE S l cls=clE S cls[i]:=by
 have e:clsF S cls i=clE S cls[i]:=by unfold clsF;rw [getD_at hi]
 unfold clsE
 rw [if_pos h,if_neg (by omega),fst0_some hi (by rw [e];exact h4) (fun j hj=>by unfold clsF;rw [getD_at (by omega)];exact h3 j (by omega) hj)]
 exact e
theorem clsE_zero {S:Sp} {l:List Ev} {cls:List Cl} (h:audE S l=0) (h2:cls.length≤20000) (h3:∀ j (hj:j<cls.length),clE S cls[j]=0):clsE S l cls=0:=by
 unfold clsE
 rw [if_pos h,if_neg (by omega),fst0_none.2 (fun i hi=>by unfold clsF;rw [getD_at hi];exact h3 i hi)]
def CsR (S:Sp) (B:(Th→Int)→Pp→Bool) (l:List Ev) (cls:List Cl) (w:World) (e:Ending) (w':World):Prop:=∃ v m c,e = .returned (.tuple #[v,.int .i64 c])∧w'.ownsRow w.heap.size 52 5 v m.length (faCs m)∧ClP S B l cls m c∧Below w.heap.size w w'
end Go.Proofs.YthhfmppealmblaaGreatDoor
namespace Go.Proofs.YthhfmppealmblaaGreatDoor
open Go.RowKit
section
variable {P : Program} {md : Region.Mode} {ops : Array Oper}
end
end Go.Proofs.YthhfmppealmblaaGreatDoor
