/-
  A part of the proof: AJ8, KW, AK3, AK0, AK4, CM, AK5, CO.
-/
import Derived.Test.YthhfmppealmblaaGreatDoorQ33
import Derived.Test.YthhfmppealmblaaGreatDoorQ17
import Derived.Test.YthhfmppealmblaaGreatDoorQ01
import Derived.Test.YthhfmppealmblaaGreatDoorQ19
import Derived.Test.YthhfmppealmblaaGreatDoorQ21
import Derived.Test.YthhfmppealmblaaGreatDoorQ30
namespace Go.Proofs.YthhfmppealmblaaGreatDoor
open Go.RowKit
def PpsR2 (m:List Pp) (w:World) (e:Ending) (w':World):Prop:=∃ v,e = .returned (.tuple #[v,.int .i64 0])∧w'.ownsRow w.heap.size 45 2 v m.length (ppCs m)∧Below w.heap.size w w'
theorem ARd.dbAt {w:World} {v:Value} {l:List (Pp × Int)} (h:ARd w v 3 (l.map dbC)) (i:Nat) (hi:i < l.length):∃ b o c,v = .slice (some ⟨b,o,none⟩) l.length c∧b < w.heap.size∧w.cell? ⟨b,o + i * 3,none⟩=some (.int .i64 l[i].1.1)∧w.cell? ⟨b,o + i * 3 + 1,none⟩=some (.int .i64 l[i].1.2):=by
  obtain ⟨b,o,c,e,hlt,hc⟩:=h.at i (by simpa using hi)
  rw [List.getElem_map] at hc
  rw [List.length_map] at e
  exact ⟨b,o,c,e,hlt,hc 0 _ rfl,hc 1 _ rfl⟩
theorem sndL_len {S:Sp} (hc:(checkP S).2=0) (B:(Th→Int)→Pp→Bool) (f:Th→Int):(sndL S B f).length≤4000:=by
  have hsg:=spGood hc
  have h1:=allFrom_len hsg.r 0
  have h2:=List.length_filter_le (B f) (allFrom 0 S.rs)
  have:=hsg.rs
  unfold sndL
  omega
set_option maxRecDepth 100000 in
set_option maxHeartbeats 6400000 in
theorem pipes12_any (v1 v2 v3 v4:Value) (S:Sp) (ok:SpOk S) (hc:(checkP S).2=0) (fp:Nat→Value) (vk vs vc:Value) (f:Th→Int) (hf:OnOk S f) (B:(Th→Int)→Pp→Bool) (hB:SndIs S B) (w:World) (hsp:SpRd w v1 v2 v3 v4 fp S) (hh:HdRd w vk vs vc S f) :
    Calls Tryz.prog 51 #[.agg #[v1,v2,v3,v4],.agg #[vk,vs,vc]] w (PpsR2 (sndL S B f) w):=by
  obtain ⟨i0,hi0,hz0,hz1,hz2⟩:=info_parts pp_info
  have hln:=sndL_len hc B f
  have HSP:=Lib.hid hsp
  have HH:=Lib.hid hh
  have b0:=(Blk.new w 27 #[v1,v2,v3,v4]).alloc (.cells #[vk,vs,vc] 70)
  have b1:=Blk.new (w.alloc (.cells #[v1,v2,v3,v4] 27)) 70 #[vk,vs,vc]
  rw [World.size_alloc] at b1
  have HB:=Lib.hid (below_two w (.cells #[v1,v2,v3,v4] 27) (.cells #[vk,vs,vc] 70))
  have B0:=Lib.hid b0
  have B1:=Lib.hid b1
  have HCK:=Lib.hid (fun (W:World) (hb:Below w.heap.size w W)=>check12_ok v1 v2 v3 v4 S ok hc fp vk vs vc f hf W (hsp.later hb) (hh.later hb))
  have HCH:=Lib.hid (fun (W:World) (hb:Below w.heap.size w W)=>chains_any v1 v2 v3 v4 S ok hc fp vk vs vc f hf W (hsp.later hb) (hh.later hb))
  have HSO:=Lib.hid (fun (W:World) (base LB:Nat) (rb:Nat→Nat) (G:Gr) (hb:Below w.heap.size w W) (hg:GrI base S.ds.length S.ds.length LB rb G W) (hG:∀ q,G q≠none ↔ Acts S f q)=>sounds_any v1 v2 v3 v4 S hc fp vk vs vc f B hB base LB rb G hG W (hsp.later hb) (hh.later hb) hg)
  clear hsp hh b0 b1 ok hc hf hB
  obtain ⟨s0,s1,s2,s3⟩:=B0.out.four
  have h0:=B1.out.cell 0
  have h1:=B1.out.cell 1
  have h2:=B1.out.cell 2
  simp only [List.getElem?_toArray,List.getElem?_cons_zero,List.getElem?_cons_succ] at h0 h1 h2
  go_enter Tryz.func51,Tryz.ntmps51
  go_wp2_with fail
  refine (HCK.out _ HB.out).mono ?_
  rintro e W ⟨rfl,hb⟩
  have HB2:=Lib.hid (below_step HB.out hb)
  have hdr:=hold7 (W0:=W) ⟨Below.refl _ W,(B0.out.below hb).cell 0,(B0.out.below hb).cell 1,(B0.out.below hb).cell 2,(B0.out.below hb).cell 3,(B1.out.below hb).cell 0,(B1.out.below hb).cell 1,(B1.out.below hb).cell 2⟩ ((Below.refl _ W).drew)
  clear s0 s1 s2 s3 h0 h1 h2 HCK B0 B1 HB hb
  go_wp2_with fail
  go_region_held3 (fun w'=>Below W.heap.size W w'∧w'.cell? ⟨w.heap.size,0,none⟩=some v1∧w'.cell? ⟨w.heap.size,1,none⟩=some v2∧w'.cell? ⟨w.heap.size,2,none⟩=some v3∧w'.cell? ⟨w.heap.size,3,none⟩=some v4∧w'.cell? ⟨w.heap.size + 1,0,none⟩=some vk∧w'.cell? ⟨w.heap.size + 1,1,none⟩=some vs∧w'.cell? ⟨w.heap.size + 1,2,none⟩=some vc) (first | exact hdr | assumption) (first | (go_at_call 85; (with_reducible refine (HCH.out _ (below_step HB2.out hdr.1)).mono ?_); rintro e w2 ⟨LB,rb,G,rfl,hg2,hG2,hb2⟩; have hn:=hold7 hdr hb2; clear hb2) | (go_at_call 84; (with_reducible refine (HSO.out _ _ _ _ _ (below_step HB2.out hn.1) hg2 hG2).mono ?_); rintro e w3 ⟨va,D,rfl,hrow,hD,hb3⟩; have hn3:=hold7 hn hb3; clear hb3))
  have HB3:=Lib.hid (below_step HB2.out hn3.1)
  have hDl:D.length≤4000:=by rw [← List.length_map (f:=(·.1)),hD]; exact hln
  have HDA:=Lib.hid (ARd.of_dbs hrow)
  obtain ⟨aa,ca,eva⟩:=HDA.out.form
  rw [List.length_map] at eva
  subst eva
  have HDM:=Lib.hid hD
  have HR0:=Lib.hid (show w3.ownsRow w3.heap.size 45 2 (.slice none 0 0) ((D.take 0).map (·.1)).length (ppCs ((D.take 0).map (·.1))) from World.ownsRow_nil _ _ _ _)
  have HB0:=Lib.hid (Below.refl w3.heap.size w3)
  clear hdr hn hn3 hg2 hG2 hrow hD HCH HSO
  go_wp2
  go_loopw [8,9] (fun v x wr=>∃ i:Nat,i≤D.length∧x = .int .i64 i∧RowKit.Hid (wr.ownsRow w3.heap.size 45 2 v ((D.take i).map (·.1)).length (ppCs ((D.take i).map (·.1))))∧RowKit.Hid (Below w3.heap.size w3 wr)) (fun _ x _=>D.length - (intOf x).toNat)
  case atStart=>exact ⟨0,Nat.zero_le _,rfl,HR0,HB0⟩
  clear HR0 HB0
  obtain ⟨i,hi,rfl,hrow,hB⟩:=hrel
  by_cases hil:i < D.length
  · have hi2:(i:Int) < (D.length:Int):=by omega
    obtain ⟨b,o,c',ev,hbl,k0,k1⟩:=(HDA.out.later hB.out).dbAt i hil
    cases ev
    have HN:=Lib.hid (show (D.take (i + 1)).map (·.1)=(D.take i).map (·.1) ++ [D[i].1] by rw [List.take_succ_eq_append_getElem hil,List.map_append]; rfl)
    have hlen:((D.take i).map (·.1)).length≤4000:=by rw [List.length_map,List.length_take]; omega
    obtain ⟨p,hp⟩:∃ p,D[i].1=p:=⟨_,rfl⟩
    rw [hp] at k0 k1 HN
    obtain ⟨M,hM⟩:∃ M,(D.take i).map (·.1)=M:=⟨_,rfl⟩
    rw [hM] at hrow hlen HN
    have hsz:=hB.out.size
    clear hp hM
    go_wp2_with (at_builtin; refine wpList_append_lies _ rfl _ _ 48 rfl w3.heap.size 45 i0 _ 2 16 Tryz.underlying48 hi0 hz0 hz1 hz2 rfl (by omega) _ _ _ rfl (hrow.out.alloc _) ⟨wr.heap.size,0,none⟩ 1 1 [.int .i64 p.1,.int .i64 p.2] rfl rfl (World.news_of_block (cs:=#[.int .i64 p.1,.int .i64 p.2]) (t:=45) (fr:=(0,0)) (heap_alloc_new wr _)) (by simp [Value.oneCell']) (by omega) (by unfold maxLen; omega) (by omega) (by simp; omega) (wr.heap.size + 1) (by simp) ?_; intro gg cap w4 hown3 hgrow hat3 hlt3)
    have HP:=Lib.hid (pps_step (l:=M) (p:=p) hown3 rfl)
    rw [← HN.out] at HP
    have HB4:=Lib.hid (push_low hB.out hrow.out hgrow)
    clear hown3 hgrow hat3 hlt3
    go_wp2
    go_roundw
    case rel=>exact ⟨i + 1,by omega,by go_num,by have:=HP.out; rw [HN.out] at this ⊢; simpa only [List.length_append] using Lib.hid this,HB4⟩
    case measure=>simp [intOf]; omega
  · have hi2:¬ (i:Int) < (D.length:Int):=by omega
    have hie:i=D.length:=by omega
    rw [hie,List.take_length,HDM.out] at hrow
    clear hie
    go_wp2
    go_ret2
    exact ⟨_,rfl,row_base hrow.out HB3.out.size,below_step HB3.out hB.out⟩
end Go.Proofs.YthhfmppealmblaaGreatDoor
namespace Go.Proofs.YthhfmppealmblaaGreatDoor
open Go.RowKit
section
variable {P : Program} {md : Region.Mode} {ops : Array Oper} {Q : Exit → Act → World → Prop}
end
end Go.Proofs.YthhfmppealmblaaGreatDoor
namespace Go.Proofs.YthhfmppealmblaaGreatDoor
open Go.RowKit
theorem clsE_ne {S:Sp} {l:List Ev} {cls:List Cl} (h:audE S l≠0):clsE S l cls=audE S l:=if_neg h
theorem clsE_long {S:Sp} {l:List Ev} {cls:List Cl} (h:audE S l=0) (h2:20000 < cls.length):clsE S l cls=3:=by unfold clsE; rw [if_pos h,if_pos h2]
theorem clsE_at {S:Sp} {l:List Ev} {cls:List Cl} (h:audE S l=0) (h2:cls.length≤20000) {i:Nat} (hi:i < cls.length) (h3:∀ j (hj:j < cls.length),j < i→clE S cls[j]=0) (h4:clE S cls[i]≠0):clsE S l cls=clE S cls[i]:=by
 have e:clsF S cls i=clE S cls[i]:=by unfold clsF; rw [getD_at hi]
 unfold clsE
 rw [if_pos h,if_neg (by omega),fst0_some hi (by rw [e]; exact h4) (fun j hj=>by unfold clsF; rw [getD_at (by omega)]; exact h3 j (by omega) hj)]
 exact e
theorem clsE_zero {S:Sp} {l:List Ev} {cls:List Cl} (h:audE S l=0) (h2:cls.length≤20000) (h3:∀ j (hj:j < cls.length),clE S cls[j]=0):clsE S l cls=0:=by
 unfold clsE
 rw [if_pos h,if_neg (by omega),fst0_none.2 (fun i hi=>by unfold clsF; rw [getD_at hi]; exact h3 i hi)]
def CsR (S:Sp) (B:(Th→Int)→Pp→Bool) (l:List Ev) (cls:List Cl) (w:World) (e:Ending) (w':World):Prop:=∃ v m c,e = .returned (.tuple #[v,.int .i64 c])∧w'.ownsRow w.heap.size 52 5 v m.length (faCs m)∧ClP S B l cls m c∧Below w.heap.size w w'
end Go.Proofs.YthhfmppealmblaaGreatDoor
namespace Go.Proofs.YthhfmppealmblaaGreatDoor
open Go.RowKit
section
variable {P : Program} {md : Region.Mode} {ops : Array Oper}
end
end Go.Proofs.YthhfmppealmblaaGreatDoor
namespace Go.Proofs.YthhfmppealmblaaGreatDoor
open Go.RowKit
theorem row_form {W:World} {base:Nat} {t:TypeId} {k n:Nat} {v:Value} {xs:List Value} (h:W.ownsRow base t k v n xs):∃ a n c,v = .slice a n c:=by
 rcases h.2 with ⟨rfl,_⟩ | ⟨g,cap,cur,rfl,_⟩
 ·exact ⟨_,_,_,rfl⟩
 ·exact ⟨_,_,_,rfl⟩
theorem audE_parts {S:Sp} {l:List Ev} (h:audE S l=0):(checkP S).2=0∧(recE S l).2=0:=by
 unfold audE at h
 split at h
 ·rename_i q
  split at h
  ·rename_i q2
   exact ⟨q,q2⟩
  ·cases h
 ·rename_i q
  exact absurd h q
end Go.Proofs.YthhfmppealmblaaGreatDoor
namespace Go.Proofs.YthhfmppealmblaaGreatDoor
open Go.RowKit
theorem flatMap_take {cls:List Cl} {i:Nat} (h:i < cls.length):(cls.take (i + 1)).flatMap clCg=(cls.take i).flatMap clCg ++ clCg cls[i]:=by
 rw [List.take_succ_eq_append_getElem h,List.flatMap_append,List.flatMap_cons,List.flatMap_nil,List.append_nil]
theorem clCg_one {p:Pp} {a b:Int} (h:b < 0):clCg (p,a,b)=[(a,p,0,1)]:=by unfold clCg; rw [if_neg (by simp only; omega)]
theorem clCg_two {p:Pp} {a b:Int} (h:0≤b):clCg (p,a,b)=[(a,p,0,1),(b,p,0,-1)]:=by unfold clCg; rw [if_pos (by exact h)]
theorem clCg_len (c:Cl):(clCg c).length≤2:=by unfold clCg; split <;> simp
theorem clCgs_len:∀ cls:List Cl,(cls.flatMap clCg).length≤2 * cls.length
 | []=>Nat.zero_le _
 | c :: cls=>by
  rw [List.flatMap_cons,List.length_append,List.length_cons]
  have:=clCg_len c
  have:=clCgs_len cls
  omega
theorem clCg_small {cls:List Cl} {x:Cg} (h:x∈cls.flatMap clCg):x.2.2.1=0∧(x.2.2.2=1∨x.2.2.2 = -1):=by
 obtain ⟨c,_,hx⟩:=List.mem_flatMap.1 h
 unfold clCg at hx
 rcases List.mem_cons.1 hx with rfl | hx
 ·exact ⟨rfl,.inl rfl⟩
 ·split at hx
  ·rw [List.mem_singleton] at hx
   subst hx
   exact ⟨rfl,.inr rfl⟩
  ·cases hx
theorem clE_has {S:Sp} {p:Pp} {a b:Int} (h:p ∉ allFrom 0 S.rs):clE S (p,a,b)=4:=if_neg h
theorem clE_bad {S:Sp} {p:Pp} {a b:Int} (h:p∈allFrom 0 S.rs) (h2:¬ (0≤a∧a≤100000000∧(b = -1∨a < b∧b≤100000000))):clE S (p,a,b)=7:=by unfold clE; rw [if_pos (by exact h),if_neg (by exact h2)]
theorem clE_good {S:Sp} {p:Pp} {a b:Int} (h:p∈allFrom 0 S.rs) (h2:0≤a∧a≤100000000∧(b = -1∨a < b∧b≤100000000)):clE S (p,a,b)=0:=by unfold clE; rw [if_pos (by exact h),if_pos (by exact h2)]
theorem evsR_one {W:World} {b:Nat} {t:TypeId} {vl:Value} {l:List Ev} (h:Blk W b t #[vl]) (hl:ARd W vl 5 (l.map evC)):EvsR W (.slice (some ⟨b,0,none⟩) 1 1) [(vl,l)]:=by
 refine ⟨⟨_,_,rfl,fun i hi=>⟨b,0,rfl,h.lt,fun j u hj=>?_⟩⟩,fun x hx=>?_⟩
 ·have hi0:i=0:=by simpa using hi
  subst hi0
  have hj0:j=0:=by
   have:=(List.getElem?_eq_some_iff.1 hj).1
   simpa using this
  subst hj0
  rw [h.cell]
  simpa using hj
 ·rw [List.mem_singleton.1 hx]
  exact hl
theorem blk_kept_row {W W':World} {b base n k:Nat} {t t2:TypeId} {cs:Array Value} {v:Value} {xs:List Value} (h:Blk W b t cs) (hg:W.grownBy W' v.ownBlock) (hr:W.ownsRow base t2 k v n xs) (hne:t≠t2):Blk W' b t cs:=(hg.block b h.lt (fun e=>by
 rcases hr.2 with ⟨rfl,_⟩ | ⟨g,cap,cur,rfl,_,hgg,_⟩
 ·cases e
 ·have e':b=g:=Option.some.inj e
  subst e'
  unfold Blk at h
  rw [h] at hgg
  cases hgg
  exact hne rfl)).trans h
set_option maxRecDepth 100000 in
set_option maxHeartbeats 12800000 in
theorem aclaims_any (v1 v2 v3 v4:Value) (S:Sp) (ok:SpOk S) (fp:Nat→Value) (l:List Ev) (vl:Value) (cls:List Cl) (vc:Value) (B:(Th→Int)→Pp→Bool) (hB:SndIs S B) (w:World) (t:Tabs w) (hsp:SpRd w v1 v2 v3 v4 fp S) (hlv:ARd w vl 5 (l.map evC)) (hcv:ARd w vc 4 (cls.map clC)) (hl:l.length≤50000) (hcl:cls.length≤50000) :
  Calls Tryz.prog 14 #[.agg #[v1,v2,v3,v4],vl,vc] w (CsR S B l cls w):=by
 obtain ⟨i0,hi0,hz0,hz1,hz2⟩:=info_parts cg_info
 obtain ⟨ac,cc,evc⟩:=hcv.clForm
 subst evc
 obtain ⟨al,cv,evl⟩:=hlv.evForm
 subst evl
 have hal:=(Below.refl _ w).alloc (Nat.le_refl w.heap.size) (.cells #[v1,v2,v3,v4] 27)
 have hk:=Blk.new w 27 #[v1,v2,v3,v4]
 have hal2:Below w.heap.size w ((w.alloc (.cells #[v1,v2,v3,v4] 27)).alloc (.cells #[.slice al l.length cv] 28)):=hal.alloc (by simp) _
 have hk2:=hk.alloc (.cells #[.slice al l.length cv] 28)
 have hk3:=Blk.new (w.alloc (.cells #[v1,v2,v3,v4] 27)) 28 #[.slice al l.length cv]
 rw [World.size_alloc] at hk3
 have HCK:=Lib.hid (acheck_any v1 v2 v3 v4 S ok fp w.heap.size _ [(.slice al l.length cv,l)] _ (t.below hal2) (hsp.later hal2) hk2 (by simp) (fun x hx=>by rw [List.mem_singleton.1 hx]; exact Nat.le_trans hl (by omega)) (evsR_one hk3 (hlv.later hal2)))
 rw [show ([(.slice al l.length cv,l)]:List (Value × List Ev)).map (·.2)=[l] from rfl,chkE_one] at HCK
 have HB0:=Lib.hid hal2
 have B0:=Lib.hid hk2
 have HSP:=Lib.hid hsp
 have HLV:=Lib.hid hlv
 have HCV:=Lib.hid hcv
 clear hsp hlv hcv ok t hal hk hal2 hk2 hk3
 go_enter Tryz.func14,Tryz.ntmps14
 go_wp2_with fail
 refine (HCK.out).mono ?_
 rintro e W ⟨rfl,hb⟩
 have HB1:=Lib.hid (below_step HB0.out hb)
 have B1:=Lib.hid (B0.out.below hb)
 clear HCK hb B0 HB0
 by_cases hE:audE S l=0
 case neg =>
  have HN:=Lib.hid (clsE_ne (cls:=cls) hE)
  have HE:=Lib.hid hE
  obtain ⟨e0,he0⟩:∃ e0,audE S l=e0:=⟨_,rfl⟩
  rw [he0] at HN HE hE ⊢
  have q1:(e0 == 0)=false:=by simpa using hE
  clear he0 hE
  go_wp2
  go_ret2
  exact ⟨_,[],_,rfl,World.ownsRow_nil _ _ _ _,.inl ⟨by rw [HN.out]; exact HE.out,rfl,HN.out.symm⟩,HB1.out⟩
 have HE:=Lib.hid hE
 rw [hE]
 by_cases hlong:20000 < cls.length
 ·have HN:=Lib.hid (clsE_long hE hlong)
  have h2:(20000:Int) < (cls.length:Int):=by omega
  clear hE
  go_wp2
  go_ret2
  exact ⟨_,[],_,rfl,World.ownsRow_nil _ _ _ _,.inl ⟨by rw [HN.out]; decide,rfl,HN.out.symm⟩,HB1.out⟩
 have h2:¬ (20000:Int) < (cls.length:Int):=by omega
 have hcl2:cls.length≤20000:=by omega
 obtain ⟨hck,hrk⟩:=audE_parts hE
 have hll:=((recE_iff hck).1 hrk).1
 have hsg:=spGood hck
 have HSG:=Lib.hid hsg
 have HCH:=Lib.hid (changes_any v1 v2 v3 v4 S hck fp w.heap.size B hB l (.slice al l.length cv) hrk W (HSP.out.later HB1.out) B1.out (HLV.out.later HB1.out))
 have HGP:=Lib.hid (show ∀ x∈S.ss,∀ key,∀ p∈playsL x key,p∈allFrom 0 S.rs from fun x hx key=>hsg.plays hx)
 have HSB:=Lib.hid hB
 clear hE hck hrk hsg hlong hB
 go_wp2_with fail
 refine (HCH.out).mono ?_
 rintro e W2 ⟨vo,out,rfl,hro,hcg,hol,hb2⟩
 have HCG:=Lib.hid hcg
 have HOL:=Lib.hid hol
 have HB2:=Lib.hid (below_step HB1.out hb2)
 have B2:=Lib.hid (B1.out.below hb2)
 have hszW:=HB1.out.size
 have hro2:=row_base hro hszW
 have HR0:=Lib.hid (show W2.ownsRow w.heap.size 91 5 vo (out ++ (cls.take 0).flatMap clCg).length (cgCs (out ++ (cls.take 0).flatMap clCg)) by rw [List.take_zero,List.flatMap_nil,List.append_nil]; exact hro2)
 have HBC:=Lib.hid (show ∀ (W3:World),W3.ownsRow w.heap.size 91 5 vo out.length (cgCs out)→True from fun _ _=>trivial)
 have HL0:=Lib.hid (show Below w.heap.size w W2 from HB2.out)
 have HV0:=Lib.hid (show ∀ j (hj:j < cls.length),j < 0→clE S cls[j]=0 from fun j _ h=>absurd h (Nat.not_lt_zero _))
 have HK0:=Lib.hid B2.out
 clear hro hro2 hcg hol hb2 HCH B1 HB1 HBC HB2 B2
 go_wp2
 go_loopw [9,25] (fun v x wr=>∃ i:Nat,i≤cls.length∧x = .int .i64 i∧RowKit.Hid (wr.ownsRow w.heap.size 91 5 v (out ++ (cls.take i).flatMap clCg).length (cgCs (out ++ (cls.take i).flatMap clCg)))∧RowKit.Hid (∀ j (hj:j < cls.length),j < i→clE S cls[j]=0)∧RowKit.Hid (Below w.heap.size w wr)∧RowKit.Hid (Blk wr w.heap.size 27 #[v1,v2,v3,v4])) (fun _ x _=>cls.length - (intOf x).toNat)
 case atStart=>exact ⟨0,Nat.zero_le _,rfl,HR0,HV0,HL0,HK0⟩
 clear HR0 HV0 HL0 HK0
 obtain ⟨i,hi,rfl,hrow,hV,hB,hK⟩:=hrel
 by_cases hil:i < cls.length
 ·have hi2:(i:Int) < (cls.length:Int):=by omega
  obtain ⟨b,o,c',ev,hbl,k0,k1,k2,k3⟩:=(HCV.out.later hB.out).clAt i hil
  cases ev
  have HX1:=Lib.hid (fun (e:Int) (h:clE S cls[i]=e) (h0:e≠0)=>(clsE_at HE.out hcl2 hil hV.out (by rw [h]; exact h0)).trans h)
  have HX2:=Lib.hid (show clE S cls[i]=0→∀ j (hj:j < cls.length),j < i + 1→clE S cls[j]=0 from fun h j hj hji=>by
   rcases Nat.lt_or_ge j i with q | q
   ·exact hV.out j hj q
   ·have:j=i:=by omega
    subst this
    exact h)
  have HFM:=Lib.hid (flatMap_take hil)
  have HEL:=Lib.hid (show (out ++ (cls.take i).flatMap clCg).length≤200000000 by
   have h1:=HOL.out
   have h3:=clCgs_len (cls.take i)
   rw [List.length_take] at h3
   rw [List.length_append]
   omega)
  obtain ⟨c,hcn⟩:∃ c,cls[i]=c:=⟨_,rfl⟩
  rw [hcn] at k0 k1 k2 k3 HX1 HX2 HFM
  obtain ⟨⟨p1,p2⟩,fr,tt⟩:=c
  dsimp only at k0 k1 k2 k3
  obtain ⟨E,hEE⟩:∃ E,out ++ (cls.take i).flatMap clCg=E:=⟨_,rfl⟩
  have HEQ:=Lib.hid (show out ++ (cls.take (i + 1)).flatMap clCg=E ++ clCg ((p1,p2),fr,tt) by rw [HFM.out,← hEE,List.append_assoc])
  rw [hEE] at hrow HEL
  clear hcn hEE hV HFM
  have hal:Below wr.heap.size wr (wr.alloc (.cells #[.int .i64 p1,.int .i64 p2,.int .i64 fr,.int .i64 tt] 47)):=(Below.refl _ wr).alloc (Nat.le_refl _) _
  have HX:=Lib.hid (Blk.new wr 47 #[.int .i64 p1,.int .i64 p2,.int .i64 fr,.int .i64 tt])
  have HRW:=Lib.hid (row_later hrow.out hal)
  have HBW:=Lib.hid (below_step hB.out hal)
  have HKW:=Lib.hid (hK.out.below hal)
  go_upto_region 10 with fail
  obtain ⟨X,hX⟩:∃ X,wr.heap.size=X:=⟨_,rfl⟩
  rw [hX] at HX ⊢
  generalize wr.alloc (.cells #[.int .i64 p1,.int .i64 p2,.int .i64 fr,.int .i64 tt] 47)=W3 at *
  clear k0 k1 k2 k3 hX hal hrow hB hK hbl
  have x0:W3.cell? ⟨X,0,none⟩=some (.int .i64 p1):=HX.out.cell 0
  have x1:W3.cell? ⟨X,1,none⟩=some (.int .i64 p2):=HX.out.cell 1
  have HHA:=Lib.hid (has_any v1 v2 v3 v4 S fp w.heap.size p1 p2 W3 (HSP.out.later HBW.out) HKW.out HSG.out.r)
  go_wp2_with fail
  refine (HHA.out).mono ?_
  rintro e W4 ⟨rfl,hb4⟩
  have HX4:=Lib.hid (HX.out.below hb4)
  have HR4:=Lib.hid (row_later HRW.out hb4)
  have HB4:=Lib.hid (below_step HBW.out hb4)
  have HK4:=Lib.hid (HKW.out.below hb4)
  clear x0 x1 HX HRW HBW HKW HHA hb4
  have m0:W4.cell? ⟨X,0,none⟩=some (.int .i64 p1):=HX4.out.cell 0
  have m1:W4.cell? ⟨X,1,none⟩=some (.int .i64 p2):=HX4.out.cell 1
  have m2:W4.cell? ⟨X,2,none⟩=some (.int .i64 fr):=HX4.out.cell 2
  have m3:W4.cell? ⟨X,3,none⟩=some (.int .i64 tt):=HX4.out.cell 3
  have hsz4:=HB4.out.size
  have hel:=HEL.out
  by_cases hh:(p1,p2)∈allFrom 0 S.rs
  case neg =>
   have HN:=Lib.hid (HX1.out 4 (clE_has hh) (by decide))
   rw [decide_eq_false hh]
   clear hh m0 m1 m2 m3
   go_wp2
   go_ret2
   exact ⟨_,[],_,rfl,World.ownsRow_nil _ _ _ _,.inl ⟨by rw [HN.out]; decide,rfl,HN.out.symm⟩,HB4.out⟩
  rw [decide_eq_true hh]
  by_cases g1:fr < 0
  ·have _:=g1
   have HN:=Lib.hid (HX1.out 7 (clE_bad hh (fun q=>by omega)) (by decide))
   clear hh m0 m1
   go_wp2
   go_ret2
   exact ⟨_,[],_,rfl,World.ownsRow_nil _ _ _ _,.inl ⟨by rw [HN.out]; decide,rfl,HN.out.symm⟩,HB4.out⟩
  have d1:decide (fr < 0)=false:=decide_eq_false g1
  by_cases g2:100000000 < fr
  ·have _:=g2
   have HN:=Lib.hid (HX1.out 7 (clE_bad hh (fun q=>by omega)) (by decide))
   clear hh m0 m1
   go_wp2
   go_ret2
   exact ⟨_,[],_,rfl,World.ownsRow_nil _ _ _ _,.inl ⟨by rw [HN.out]; decide,rfl,HN.out.symm⟩,HB4.out⟩
  have d2:decide (100000000 < fr)=false:=decide_eq_false g2
  by_cases g3:tt = -1
  ·subst g3
   have HV5:=Lib.hid (HX2.out (clE_good hh (by omega)))
   have HC:=Lib.hid (clCg_one (p:=(p1,p2)) (a:=fr) (b:=-1) (by omega))
   clear hh
   have hal5:=(Below.refl _ W4).alloc (Nat.le_refl W4.heap.size) (.cells #[.int .i64 fr,.int .i64 p1,.int .i64 p2,.int .i64 0,.int .i64 1] 91)
   have HX5:=Lib.hid (HX4.out.below hal5)
   have HK5:=Lib.hid (HK4.out.below hal5)
   clear hal5
   go_upto_region 15 with (at_builtin; refine wpList_append_lies _ rfl _ _ 87 rfl w.heap.size 91 i0 _ 5 40 Tryz.underlying87 hi0 hz0 hz1 hz2 rfl (by omega) _ _ _ rfl (HR4.out.alloc _) ⟨W4.heap.size,0,none⟩ 1 1 [.int .i64 fr,.int .i64 p1,.int .i64 p2,.int .i64 0,.int .i64 1] rfl rfl (World.news_of_block (cs:=#[.int .i64 fr,.int .i64 p1,.int .i64 p2,.int .i64 0,.int .i64 1]) (t:=91) (fr:=(0,0)) (heap_alloc_new W4 _)) (by simp [Value.oneCell']) (by omega) (by unfold maxLen; omega) (by omega) (by simp; omega) (W4.heap.size + 1) (by simp) ?_; intro gg cap3 w5 hown3 hgrow hat3 hlt3)
   have HR5:=Lib.hid (cgs_step (l:=E) (a:=fr) (p:=(p1,p2)) (b:=0) (c:=1) hown3 rfl)
   have HB5:=Lib.hid (push_low HB4.out HR4.out hgrow)
   have HX6:=Lib.hid ((blk_kept_row HX5.out hgrow (HR4.out.alloc _) (by decide)))
   have HK6:=Lib.hid ((blk_kept_row HK5.out hgrow (HR4.out.alloc _) (by decide)))
   clear hown3 hgrow hat3 hlt3 m0 m1 m2 m3 HX5 HK5
   have n3:w5.cell? ⟨X,3,none⟩=some (.int .i64 (-1)):=HX6.out.cell 3
   go_wp2
   go_roundw
   case rel=>exact ⟨i + 1,by omega,by go_num,by rw [HEQ.out,HC.out]; simpa only [List.length_append] using HR5,HV5,HB5,HK6⟩
   case measure=>simp [intOf]; omega
  have q3:(tt == -1)=false:=by rw [beq_eq_false_iff_ne]; exact g3
  by_cases g4:tt≤fr
  ·have _:=g4
   have HN:=Lib.hid (HX1.out 7 (clE_bad hh (fun q=>by omega)) (by decide))
   clear hh m0 m1
   go_wp2
   go_ret2
   exact ⟨_,[],_,rfl,World.ownsRow_nil _ _ _ _,.inl ⟨by rw [HN.out]; decide,rfl,HN.out.symm⟩,HB4.out⟩
  have d4:decide (tt≤fr)=false:=decide_eq_false g4
  by_cases g5:100000000 < tt
  ·have _:=g5
   have HN:=Lib.hid (HX1.out 7 (clE_bad hh (fun q=>by omega)) (by decide))
   clear hh m0 m1
   go_wp2
   go_ret2
   exact ⟨_,[],_,rfl,World.ownsRow_nil _ _ _ _,.inl ⟨by rw [HN.out]; decide,rfl,HN.out.symm⟩,HB4.out⟩
  have d5:decide (100000000 < tt)=false:=decide_eq_false g5
  have g6:(0:Int)≤tt:=by omega
  have HV5:=Lib.hid (HX2.out (clE_good hh (by omega)))
  have HC:=Lib.hid (clCg_two (p:=(p1,p2)) (a:=fr) (b:=tt) (by omega))
  clear hh
  have hal5:=(Below.refl _ W4).alloc (Nat.le_refl W4.heap.size) (.cells #[.int .i64 fr,.int .i64 p1,.int .i64 p2,.int .i64 0,.int .i64 1] 91)
  have HX5:=Lib.hid (HX4.out.below hal5)
  have HK5:=Lib.hid (HK4.out.below hal5)
  clear hal5
  go_upto_region 15 with (at_builtin; refine wpList_append_lies _ rfl _ _ 87 rfl w.heap.size 91 i0 _ 5 40 Tryz.underlying87 hi0 hz0 hz1 hz2 rfl (by omega) _ _ _ rfl (HR4.out.alloc _) ⟨W4.heap.size,0,none⟩ 1 1 [.int .i64 fr,.int .i64 p1,.int .i64 p2,.int .i64 0,.int .i64 1] rfl rfl (World.news_of_block (cs:=#[.int .i64 fr,.int .i64 p1,.int .i64 p2,.int .i64 0,.int .i64 1]) (t:=91) (fr:=(0,0)) (heap_alloc_new W4 _)) (by simp [Value.oneCell']) (by omega) (by unfold maxLen; omega) (by omega) (by simp; omega) (W4.heap.size + 1) (by simp) ?_; intro gg cap3 w5 hown3 hgrow hat3 hlt3)
  have HR5:=Lib.hid (cgs_step (l:=E) (a:=fr) (p:=(p1,p2)) (b:=0) (c:=1) hown3 rfl)
  have HB5:=Lib.hid (push_low HB4.out HR4.out hgrow)
  have HX6:=Lib.hid ((blk_kept_row HX5.out hgrow (HR4.out.alloc _) (by decide)))
  have HK6:=Lib.hid ((blk_kept_row HK5.out hgrow (HR4.out.alloc _) (by decide)))
  clear hown3 hgrow hat3 hlt3 m0 m1 m2 m3 HX5 HK5
  have n0:w5.cell? ⟨X,0,none⟩=some (.int .i64 p1):=HX6.out.cell 0
  have n1:w5.cell? ⟨X,1,none⟩=some (.int .i64 p2):=HX6.out.cell 1
  have n3:w5.cell? ⟨X,3,none⟩=some (.int .i64 tt):=HX6.out.cell 3
  have hsz5:=HB5.out.size
  have hle:(E ++ [(fr,(p1,p2),(0:Int),(1:Int))]).length=E.length + 1:=by simp
  have hal6:=(Below.refl _ w5).alloc (Nat.le_refl w5.heap.size) (.cells #[.int .i64 tt,.int .i64 p1,.int .i64 p2,.int .i64 0,.int .i64 (-1)] 91)
  have HK7:=Lib.hid (HK6.out.below hal6)
  have HR6:=Lib.hid HR5.out
  rw [hle] at HR6
  clear hal6
  go_wp2_with (at_builtin; refine wpList_append_lies _ rfl _ _ 87 rfl w.heap.size 91 i0 _ 5 40 Tryz.underlying87 hi0 hz0 hz1 hz2 rfl (by omega) _ _ _ rfl (HR6.out.alloc _) ⟨w5.heap.size,0,none⟩ 1 1 [.int .i64 tt,.int .i64 p1,.int .i64 p2,.int .i64 0,.int .i64 (-1)] rfl rfl (World.news_of_block (cs:=#[.int .i64 tt,.int .i64 p1,.int .i64 p2,.int .i64 0,.int .i64 (-1)]) (t:=91) (fr:=(0,0)) (heap_alloc_new w5 _)) (by simp [Value.oneCell']) (by omega) (by unfold maxLen; omega) (by omega) (by simp; omega) (w5.heap.size + 1) (by simp) ?_; intro gg cap3 w6 hown3 hgrow hat3 hlt3)
  have HR7:=Lib.hid (cgs_step (l:=E ++ [(fr,(p1,p2),0,1)]) (a:=tt) (p:=(p1,p2)) (b:=0) (c:=-1) hown3 (by rw [hle]))
  have HB7:=Lib.hid (push_low HB5.out HR5.out hgrow)
  have HK8:=Lib.hid ((blk_kept_row HK7.out hgrow (HR5.out.alloc _) (by decide)))
  clear hown3 hgrow hat3 hlt3 n0 n1 n3 HK7
  go_wp2
  go_roundw
  case rel=>exact ⟨i + 1,by omega,by go_num,by rw [HEQ.out,HC.out]; have:=HR7.out; simpa only [List.length_append,List.append_assoc,List.cons_append,List.nil_append] using Lib.hid this,HV5,HB7,HK8⟩
  case measure=>simp [intOf]; omega
 ·have hi2:¬ (i:Int) < (cls.length:Int):=by omega
  have hie:i=cls.length:=by omega
  rw [hie,List.take_length] at hrow
  have HZ:=Lib.hid (clsE_zero HE.out hcl2 (fun j hj=>hV.out j hj (by omega)))
  obtain ⟨E,hEE⟩:∃ E,out ++ cls.flatMap clCg=E:=⟨_,rfl⟩
  have HEE:=Lib.hid hEE
  have HEL:E.length≤200000000:=by
   have h1:=HOL.out
   have h3:=clCgs_len cls
   rw [← hEE,List.length_append]
   omega
  have hsm:∀ x∈E,(-1≤x.2.2.1∧x.2.2.1≤1)∧(-1≤x.2.2.2∧x.2.2.2≤1):=fun x hx=>by
   rw [← hEE] at hx
   rcases List.mem_append.1 hx with h | h
   ·have:=chg_all HSB.out HGP.out HCG.out h
    omega
   ·have:=clCg_small h
    omega
  rw [hEE] at hrow
  have HFA:=Lib.hid (afaults_any E (by omega) hsm w.heap.size u9 wr hB.out.size hrow.out)
  clear hie hEE hV hsm hrow
  go_wp2_with fail
  refine (HFA.out).mono ?_
  rintro e W9 ⟨srt,u,m,c,hp,hs,rfl,hr,hf,hb9⟩
  rw [← HEE.out] at hp
  have HF:=Lib.hid (show ClP S B l cls m c from .inr ⟨HZ.out,by rw [← goF_cl HSB.out HGP.out HZ.out HCG.out hp hs]; exact hf⟩)
  have HR9:=Lib.hid hr
  have HB9:=Lib.hid (hB.out.trans hb9)
  clear hp hs hr hf hb9
  go_wp2
  go_ret2
  exact ⟨_,m,c,rfl,HR9.out,HF.out,HB9.out⟩
end Go.Proofs.YthhfmppealmblaaGreatDoor
namespace Go.Proofs.YthhfmppealmblaaGreatDoor
open Go.RowKit
def CmR (S:Sp) (B:(Th→Int)→Pp→Bool) (a b:List Ev) (w:World) (e:Ending) (w':World):Prop:=∃ v m c,e = .returned (.tuple #[v,.int .i64 c])∧w'.ownsRow w.heap.size 52 5 v m.length (faCs m)∧TwP S B a b m c∧Below w.heap.size w w'
theorem twE_a {S:Sp} {a b:List Ev} (h:audE S a≠0):twE S a b=audE S a:=if_neg h
theorem twE_b {S:Sp} {a b:List Ev} (h:audE S a=0):twE S a b=audE S b:=if_pos h
end Go.Proofs.YthhfmppealmblaaGreatDoor
namespace Go.Proofs.YthhfmppealmblaaGreatDoor
open Go.RowKit
theorem evsR_two {W:World} {b:Nat} {t:TypeId} {va vb:Value} {la lb:List Ev} (h:Blk W b t #[va,vb]) (ha:ARd W va 5 (la.map evC)) (hb:ARd W vb 5 (lb.map evC)):EvsR W (.slice (some ⟨b,0,none⟩) 2 2) [(va,la),(vb,lb)]:=by
 refine ⟨⟨_,_,rfl,fun i hi=>⟨b,0,rfl,h.lt,fun j u hj=>?_⟩⟩,fun x hx=>?_⟩
 ·have hi2:i < 2:=hi
  match i,hi2 with
  | 0,_ =>
   have hj0:j=0:=by
    have:=(List.getElem?_eq_some_iff.1 hj).1
    simpa using this
   subst hj0
   rw [h.cell]
   simpa using hj
  | 1,_ =>
   have hj0:j=0:=by
    have:=(List.getElem?_eq_some_iff.1 hj).1
    simpa using this
   subst hj0
   rw [h.cell]
   simpa using hj
 ·rcases List.mem_cons.1 hx with rfl | hx
  ·exact ha
  ·rw [List.mem_singleton.1 hx]
   exact hb
theorem twE_parts {S:Sp} {a b:List Ev} (h:twE S a b=0):audE S a=0∧audE S b=0:=by
 by_cases h1:audE S a=0
 ·exact ⟨h1,(twE_b h1).symm.trans h⟩
 ·exact absurd ((twE_a h1).symm.trans h) h1
theorem map_take_toCl {l:List Cg} {i:Nat} (h:i < l.length):(l.take (i + 1)).map toCl=(l.take i).map toCl ++ [toCl l[i]]:=by
 rw [List.take_succ_eq_append_getElem h,List.map_append,List.map_cons,List.map_nil]
theorem cg_blk {W:World} {X:Nat} {t:TypeId} {a b c d e:Value} (h:Blk W X t #[a,b,c,d,e]) (u v:Value):Blk ((W.setCell ⟨X,3,none⟩ u).setCell ⟨X,4,none⟩ v) X t #[a,b,c,u,v]:=(h.set 3 u).set 4 v
theorem apart_step {v v2:Value} {gg H:Nat} (h:v2.ownBlock=none∨v2.ownBlock≠v.ownBlock) (hat:v.ownBlock=some gg∨gg=H) (hlt:∀ k,v2.ownBlock=some k→k < H) (n c:Nat):v2.ownBlock=none∨v2.ownBlock≠(Value.slice (some ⟨gg,0,none⟩) n c).ownBlock:=by
 rcases hat with e | e
 ·rw [show (Value.slice (some ⟨gg,0,none⟩) n c).ownBlock=some gg from rfl,← e]
  exact h
 ·refine .inr fun q=>?_
  have:=hlt gg q
  omega
set_option maxRecDepth 100000 in
set_option maxHeartbeats 12800000 in
theorem acompare_any (v1 v2 v3 v4:Value) (S:Sp) (ok:SpOk S) (fp:Nat→Value) (la:List Ev) (va:Value) (lb:List Ev) (vb:Value) (B:(Th→Int)→Pp→Bool) (hB:SndIs S B) (w:World) (t:Tabs w) (hsp:SpRd w v1 v2 v3 v4 fp S) (hla:ARd w va 5 (la.map evC)) (hlb:ARd w vb 5 (lb.map evC)) (hl:la.length≤50000) (hl2:lb.length≤50000) :
  Calls Tryz.prog 24 #[.agg #[v1,v2,v3,v4],va,vb] w (CmR S B la lb w):=by
 obtain ⟨i0,hi0,hz0,hz1,hz2⟩:=info_parts cg_info
 obtain ⟨aa,ca,eva⟩:=hla.evForm
 subst eva
 obtain ⟨ab,cb,evb⟩:=hlb.evForm
 subst evb
 have hal:=(Below.refl _ w).alloc (Nat.le_refl w.heap.size) (.cells #[v1,v2,v3,v4] 27)
 have hk:=Blk.new w 27 #[v1,v2,v3,v4]
 have hal2:Below w.heap.size w ((w.alloc (.cells #[v1,v2,v3,v4] 27)).alloc (.cells #[.slice aa la.length ca,.slice ab lb.length cb] 28)):=hal.alloc (by simp) _
 have hk2:=hk.alloc (.cells #[.slice aa la.length ca,.slice ab lb.length cb] 28)
 have hk3:=Blk.new (w.alloc (.cells #[v1,v2,v3,v4] 27)) 28 #[.slice aa la.length ca,.slice ab lb.length cb]
 rw [World.size_alloc] at hk3
 have HCK:=Lib.hid (acheck_any v1 v2 v3 v4 S ok fp w.heap.size _ [(.slice aa la.length ca,la),(.slice ab lb.length cb,lb)] _ (t.below hal2) (hsp.later hal2) hk2 (by simp) (fun x hx=>by
  rcases List.mem_cons.1 hx with rfl | hx
  ·exact Nat.le_trans hl (by omega)
  ·rw [List.mem_singleton.1 hx]; exact Nat.le_trans hl2 (by omega)) (evsR_two hk3 (hla.later hal2) (hlb.later hal2)))
 rw [show ([(.slice aa la.length ca,la),(.slice ab lb.length cb,lb)]:List (Value × List Ev)).map (·.2)=[la,lb] from rfl,chkE_two] at HCK
 have HB0:=Lib.hid hal2
 have B0:=Lib.hid hk2
 have HSP:=Lib.hid hsp
 have HLA:=Lib.hid hla
 have HLB:=Lib.hid hlb
 clear hsp hla hlb ok t hal hk hal2 hk2 hk3
 go_enter Tryz.func24,Tryz.ntmps24
 go_wp2_with fail
 refine (HCK.out).mono ?_
 rintro e W ⟨rfl,hb⟩
 have HB1:=Lib.hid (below_step HB0.out hb)
 have B1:=Lib.hid (B0.out.below hb)
 clear HCK hb B0 HB0
 by_cases hE:twE S la lb=0
 case neg =>
  have HE:=Lib.hid hE
  obtain ⟨e0,he0⟩:∃ e0,twE S la lb=e0:=⟨_,rfl⟩
  have HN:=Lib.hid he0
  rw [he0] at HE hE ⊢
  have q1:(e0 == 0)=false:=by simpa using hE
  clear he0 hE
  go_wp2
  go_ret2
  exact ⟨_,[],_,rfl,World.ownsRow_nil _ _ _ _,.inl ⟨by rw [HN.out]; exact HE.out,rfl,HN.out.symm⟩,HB1.out⟩
 have HE:=Lib.hid hE
 rw [hE]
 obtain ⟨hEa,hEb⟩:=twE_parts hE
 obtain ⟨hck,hrk⟩:=audE_parts hEa
 obtain ⟨_,hrk2⟩:=audE_parts hEb
 have hll:=((recE_iff hck).1 hrk).1
 have hll2:=((recE_iff hck).1 hrk2).1
 have hsg:=spGood hck
 have HCH:=Lib.hid (changes_any v1 v2 v3 v4 S hck fp w.heap.size B hB la (.slice aa la.length ca) hrk W (HSP.out.later HB1.out) B1.out (HLA.out.later HB1.out))
 have HCH2:=Lib.hid (fun (W:World) (hb:Below w.heap.size w W) (hk:Blk W w.heap.size 27 #[v1,v2,v3,v4])=>changes_any v1 v2 v3 v4 S hck fp w.heap.size B hB lb (.slice ab lb.length cb) hrk2 W (HSP.out.later hb) hk (HLB.out.later hb))
 have HGP:=Lib.hid (show ∀ x∈S.ss,∀ key,∀ p∈playsL x key,p∈allFrom 0 S.rs from fun x hx key=>hsg.plays hx)
 have HSB:=Lib.hid hB
 have HLL:=Lib.hid (And.intro hll hll2)
 clear hE hck hrk hrk2 hsg hB hEa hEb hll hll2
 go_wp2_with fail
 refine (HCH.out).mono ?_
 rintro e W2 ⟨vo,out,rfl,hro,hcg,hol,hb2⟩
 have HCG:=Lib.hid hcg
 have HOL:=Lib.hid (show out.length≤200000000 by have:=HLL.out.1; omega)
 have HB2:=Lib.hid (below_step HB1.out hb2)
 have B2:=Lib.hid (B1.out.below hb2)
 have HRO:=Lib.hid (row_base hro HB1.out.size)
 have HC2:=Lib.hid (HCH2.out W2 HB2.out B2.out)
 clear hro hcg hol hb2 HCH HCH2 B1 HB1
 go_wp2_with fail
 refine (HC2.out).mono ?_
 rintro e W5 ⟨vp,out2,rfl,hrp,hcg2,hol2,hb5⟩
 obtain ⟨ap,np,cp,evp⟩:=row_form hrp
 subst evp
 obtain rfl:np=out2.length:=by
  rcases hrp.2 with ⟨h,h0⟩ | ⟨g,cap,cur,h,_⟩
  ·cases h; exact h0.symm
  ·cases h; rfl
 have HCG2:=Lib.hid hcg2
 have HOL2:=Lib.hid (show out2.length≤200000000 by have:=HLL.out.2; omega)
 have HB5:=Lib.hid (below_step HB2.out hb5)
 have HR0:=Lib.hid (show W5.ownsRow w.heap.size 91 5 vo (out ++ (out2.take 0).map toCl).length (cgCs (out ++ (out2.take 0).map toCl)) by rw [List.take_zero,List.map_nil,List.append_nil]; exact row_later HRO.out hb5)
 have HP0:=Lib.hid hrp
 have HA0:=Lib.hid (show (Value.slice ap out2.length cp).ownBlock=none∨(Value.slice ap out2.length cp).ownBlock≠vo.ownBlock from by
  cases hq:(Value.slice ap out2.length cp).ownBlock with
  | none=>exact .inl rfl
  | some k =>
   refine .inr fun q=>?_
   have h1:=row_ge hrp hq
   have h2:=(HRO.out.lt k q.symm).2
   omega)
 have HL0:=Lib.hid HB5.out
 clear hrp hcg2 hol2 hb5 HRO HC2 HB2 B2 HB5
 go_wp2
 go_loopw [9,24] (fun v x wr=>∃ i:Nat,i≤out2.length∧x = .int .i64 i∧RowKit.Hid (wr.ownsRow w.heap.size 91 5 v (out ++ (out2.take i).map toCl).length (cgCs (out ++ (out2.take i).map toCl)))∧RowKit.Hid (wr.ownsRow W2.heap.size 91 5 (.slice ap out2.length cp) out2.length (cgCs out2))∧RowKit.Hid ((Value.slice ap out2.length cp).ownBlock=none∨(Value.slice ap out2.length cp).ownBlock≠v.ownBlock)∧RowKit.Hid (Below w.heap.size w wr)) (fun _ x _=>out2.length - (intOf x).toNat)
 case atStart=>exact ⟨0,Nat.zero_le _,rfl,HR0,HP0,HA0,HL0⟩
 clear HR0 HP0 HA0 HL0
 obtain ⟨i,hi,rfl,hrow,hP,hA,hB⟩:=hrel
 by_cases hil:i < out2.length
 ·have hi2:(i:Int) < (out2.length:Int):=by omega
  obtain ⟨b,o,c',ev,hbl,k0,k1,k2,k3,k4⟩:=(ARd.of_cgs hP.out).cgAt i hil
  cases ev
  have HFM:=Lib.hid (map_take_toCl hil)
  have HEL:=Lib.hid (show (out ++ (out2.take i).map toCl).length≤400000000 by
   have h1:=HOL.out
   have h2:=HOL2.out
   rw [List.length_append,List.length_map,List.length_take]
   omega)
  obtain ⟨c,hcn⟩:∃ c,out2[i]=c:=⟨_,rfl⟩
  rw [hcn] at k0 k1 k2 k3 k4 HFM
  obtain ⟨tk,⟨p1,p2⟩,sd,cl⟩:=c
  dsimp only at k0 k1 k2 k3 k4
  obtain ⟨E,hEE⟩:∃ E,out ++ (out2.take i).map toCl=E:=⟨_,rfl⟩
  have HEQ:=Lib.hid (show out ++ (out2.take (i + 1)).map toCl=E ++ [(tk,(p1,p2),0,sd)] by rw [HFM.out,← hEE,List.append_assoc]; rfl)
  rw [hEE] at hrow HEL
  clear hcn hEE HFM
  have hal:Below wr.heap.size wr (wr.alloc (.cells #[.int .i64 tk,.int .i64 p1,.int .i64 p2,.int .i64 sd,.int .i64 cl] 91)):=(Below.refl _ wr).alloc (Nat.le_refl _) _
  have HX:=Lib.hid (Blk.new wr 91 #[.int .i64 tk,.int .i64 p1,.int .i64 p2,.int .i64 sd,.int .i64 cl])
  have HRW:=Lib.hid (row_later hrow.out hal)
  have HPW:=Lib.hid (row_later hP.out hal)
  have HBW:=Lib.hid (below_step hB.out hal)
  have HLT:=Lib.hid (And.intro (fun k (e:u9.ownBlock=some k)=>(hrow.out.lt k e).2) (fun k (e:(Value.slice (some ⟨b,o,none⟩) out2.length cp).ownBlock=some k)=>(hP.out.lt k e).2))
  have HSZ:=Lib.hid hB.out.size
  go_upto_region 8 with fail
  obtain ⟨X,hX⟩:∃ X,wr.heap.size=X:=⟨_,rfl⟩
  rw [hX] at HX HLT HSZ ⊢
  generalize wr.alloc (.cells #[.int .i64 tk,.int .i64 p1,.int .i64 p2,.int .i64 sd,.int .i64 cl] 91)=W3 at *
  clear k0 k1 k2 k3 k4 hX hal hrow hP hB hbl
  have x3:W3.cell? ⟨X,3,none⟩=some (.int .i64 sd):=HX.out.cell 3
  have x4:W3.cell? ⟨X,4,none⟩=some (.int .i64 cl):=HX.out.cell 4
  have f3:=HX.out.frozen 3
  have f4:=HX.out.frozen 4
  have f5:(W3.setCell ⟨X,3,none⟩ (.int .i64 0)).frozen? ⟨X,4,none⟩=false:=(HX.out.set 3 _).frozen 4
  have g1:=set_grown W3 X 3 (.int .i64 0)
  have g2:=set_grown (W3.setCell ⟨X,3,none⟩ (.int .i64 0)) X 4 (.int .i64 sd)
  have HX4:=Lib.hid (cg_blk HX.out (.int .i64 0) (.int .i64 sd))
  have hne:∀ {v:Value},(∀ k,v.ownBlock=some k→k < X)→v.ownBlock=none∨v.ownBlock≠some X:=fun {v} h => .inr fun q=>Nat.lt_irrefl _ (h X q)
  have HR4:=Lib.hid ((HRW.out.kept g1 (hne HLT.out.1)).kept g2 (hne HLT.out.1))
  have HP4:=Lib.hid ((HPW.out.kept g1 (hne HLT.out.2)).kept g2 (hne HLT.out.2))
  have HB4:=Lib.hid ((HBW.out.grown g1 HBW.out.size (fun r e=>by cases e; exact HSZ.out)).grown g2 (Nat.le_trans HBW.out.size g1.size) (fun r e=>by cases e; exact HSZ.out))
  clear g1 g2 hne HRW HPW HBW
  go_upto_region 9 with fail
  generalize (W3.setCell ⟨X,3,none⟩ (.int .i64 0)).setCell ⟨X,4,none⟩ (.int .i64 sd)=W4 at *
  clear x3 x4 f3 f4 f5 HX HLT HSZ
  have m0:W4.cell? ⟨X,0,none⟩=some (.int .i64 tk):=HX4.out.cell 0
  have m1:W4.cell? ⟨X,1,none⟩=some (.int .i64 p1):=HX4.out.cell 1
  have m2:W4.cell? ⟨X,2,none⟩=some (.int .i64 p2):=HX4.out.cell 2
  have m3:W4.cell? ⟨X,3,none⟩=some (.int .i64 0):=HX4.out.cell 3
  have m4:W4.cell? ⟨X,4,none⟩=some (.int .i64 sd):=HX4.out.cell 4
  have hsz4:=HB4.out.size
  have hel:=HEL.out
  have hol2:=HOL2.out
  have HPL:=Lib.hid (fun k e=>Nat.lt_succ_of_lt (HP4.out.lt k e).2)
  go_upto_region 10 with (at_builtin; refine wpList_append_lies _ rfl _ _ 87 rfl w.heap.size 91 i0 _ 5 40 Tryz.underlying87 hi0 hz0 hz1 hz2 rfl (by omega) _ _ _ rfl (HR4.out.alloc _) ⟨W4.heap.size,0,none⟩ 1 1 [.int .i64 tk,.int .i64 p1,.int .i64 p2,.int .i64 0,.int .i64 sd] rfl rfl (World.news_of_block (cs:=#[.int .i64 tk,.int .i64 p1,.int .i64 p2,.int .i64 0,.int .i64 sd]) (t:=91) (fr:=(0,0)) (heap_alloc_new W4 _)) (by simp [Value.oneCell']) (by omega) (by unfold maxLen; omega) (by omega) (by simp; omega) (W4.heap.size + 1) (by simp) ?_; intro gg cap3 w5 hown3 hgrow hat3 hlt3)
  have HR5:=Lib.hid (cgs_step (l:=E) (a:=tk) (p:=(p1,p2)) (b:=0) (c:=sd) hown3 rfl)
  have HB5:=Lib.hid (push_low HB4.out HR4.out hgrow)
  have HP5:=Lib.hid ((HP4.out.alloc _).kept hgrow hA.out)
  have HA5:=Lib.hid (apart_step hA.out hat3 HPL.out (E.length + 1) cap3)
  clear hown3 hgrow hat3 hlt3 m0 m1 m2 m3 m4 HX4 hA HPL
  go_wp2
  go_roundw
  case rel=>exact ⟨i + 1,by omega,by go_num,by rw [HEQ.out]; simpa only [List.length_append] using HR5,HP5,HA5,HB5⟩
  case measure=>simp [intOf]; omega
 ·have hi2:¬ (i:Int) < (out2.length:Int):=by omega
  have hie:i=out2.length:=by omega
  rw [hie,List.take_length] at hrow
  obtain ⟨E,hEE⟩:∃ E,out ++ out2.map toCl=E:=⟨_,rfl⟩
  have HEE:=Lib.hid hEE
  have HEL:E.length≤400000000:=by
   have h1:=HOL.out
   have h2:=HOL2.out
   rw [← hEE,List.length_append,List.length_map]
   omega
  have hsm:∀ x∈E,(-1≤x.2.2.1∧x.2.2.1≤1)∧(-1≤x.2.2.2∧x.2.2.2≤1):=fun x hx=>by
   rw [← hEE] at hx
   rcases List.mem_append.1 hx with h | h
   ·have:=chg_all HSB.out HGP.out HCG.out h
    omega
   ·obtain ⟨y,hy,rfl⟩:=List.mem_map.1 h
    have:=chg_all HSB.out HGP.out HCG2.out hy
    simp only [toCl]
    omega
  rw [hEE] at hrow
  have HFA:=Lib.hid (afaults_any E (by omega) hsm w.heap.size u9 wr hB.out.size hrow.out)
  clear hie hEE hsm hrow hP hA
  go_wp2_with fail
  refine (HFA.out).mono ?_
  rintro e W9 ⟨srt,u,m,c,hp,hs,rfl,hr,hf,hb9⟩
  rw [← HEE.out] at hp
  have HF:=Lib.hid (show TwP S B la lb m c from .inr ⟨HE.out,by rw [← goF_tw HSB.out HGP.out HE.out HCG.out HCG2.out hp hs]; exact hf⟩)
  have HR9:=Lib.hid hr
  have HB9:=Lib.hid (hB.out.trans hb9)
  clear hp hs hr hf hb9
  go_wp2
  go_ret2
  exact ⟨_,m,c,rfl,HR9.out,HF.out,HB9.out⟩
end Go.Proofs.YthhfmppealmblaaGreatDoor
