/-
  A part of the proof: AJ8, KW, AK3, AK0.
-/
import Derived.Test.YthhfmppealmblaaGreatDoorY15
import Derived.Test.YthhfmppealmblaaGreatDoorQ17
import Derived.Test.YthhfmppealmblaaGreatDoorQ01
import Derived.Test.YthhfmppealmblaaGreatDoorY01
import Derived.Test.YthhfmppealmblaaGreatDoorY03
namespace Go.Proofs.YthhfmppealmblaaGreatDoor
open Go.RowKit
def PpsR2 (m:List Pp) (w:World) (e:Ending) (w':World):Prop:=∃ v,e = .returned (.tuple #[v,.int .i64 0])∧w'.ownsRow w.heap.size 45 2 v m.length (ppCs m)∧Below w.heap.size w w'
theorem ARd.dbAt {w:World} {v:Value} {l:List (Pp × Int)} (h:ARd w v 3 (l.map dbC)) (i:Nat) (hi:i<l.length):∃ b o c,v = .slice (some ⟨b,o,none⟩) l.length c∧b<w.heap.size∧w.cell? ⟨b,o+i * 3,none⟩=some (.int .i64 l[i].1.1)∧w.cell? ⟨b,o+i * 3+1,none⟩=some (.int .i64 l[i].1.2):=by
  obtain ⟨b,o,c,e,hlt,hc⟩:=h.at i (by simpa using hi)
  rw [List.getElem_map] at hc
  rw [List.length_map] at e
  exact ⟨b,o,c,e,hlt,hc 0 _ rfl,hc 1 _ rfl⟩
theorem sndL_len {S:Sp} (hc:(checkP S).2=0) (B:(Th→Int)→Pp→Bool) (f:Th→Int):(sndL S B f).length≤4000:=by
  have hsg:=spGood hc
  have h1:=allFrom_len hsg.r 0
  have h2:=List.length_filter_le (B f) (allFrom 0 S.rs)
  have:=hsg.rs
  unfold sndL
  omega
set_option maxRecDepth 100000 in
set_option maxHeartbeats 6400000 in
theorem pipes12_any (v1 v2 v3 v4:Value) (S:Sp) (ok:SpOk S) (hc:(checkP S).2=0) (fp:Nat→Value) (vk vs vc:Value) (f:Th→Int) (hf:OnOk S f) (B:(Th→Int)→Pp→Bool) (hB:SndIs S B) (w:World) (hsp:SpRd w v1 v2 v3 v4 fp S) (hh:HdRd w vk vs vc S f) :
    Calls Tryz.prog 51 #[.agg #[v1,v2,v3,v4],.agg #[vk,vs,vc]] w (PpsR2 (sndL S B f) w):=by
  obtain ⟨i0,hi0,hz0,hz1,hz2⟩:=info_parts pp_info
  have hln:=sndL_len hc B f
  have HSP:=Lib.hid hsp
  have HH:=Lib.hid hh
  have b0:=(Blk.new w 27 #[v1,v2,v3,v4]).alloc (.cells #[vk,vs,vc] 70)
  have b1:=Blk.new (w.alloc (.cells #[v1,v2,v3,v4] 27)) 70 #[vk,vs,vc]
  rw [World.size_alloc] at b1
  have HB:=Lib.hid (below_two w (.cells #[v1,v2,v3,v4] 27) (.cells #[vk,vs,vc] 70))
  have B0:=Lib.hid b0
  have B1:=Lib.hid b1
  have HCK:=Lib.hid (fun (W:World) (hb:Below w.heap.size w W)=>check12_ok v1 v2 v3 v4 S ok hc fp vk vs vc f hf W (hsp.later hb) (hh.later hb))
  have HCH:=Lib.hid (fun (W:World) (hb:Below w.heap.size w W)=>chains_any v1 v2 v3 v4 S ok hc fp vk vs vc f hf W (hsp.later hb) (hh.later hb))
  have HSO:=Lib.hid (fun (W:World) (base LB:Nat) (rb:Nat→Nat) (G:Gr) (hb:Below w.heap.size w W) (hg:GrI base S.ds.length S.ds.length LB rb G W) (hG:∀ q,G q≠none ↔ Acts S f q)=>sounds_any v1 v2 v3 v4 S hc fp vk vs vc f B hB base LB rb G hG W (hsp.later hb) (hh.later hb) hg)
  clear hsp hh b0 b1 ok hc hf hB
  obtain ⟨s0,s1,s2,s3⟩:=B0.out.four
  have h0:=B1.out.cell 0
  have h1:=B1.out.cell 1
  have h2:=B1.out.cell 2
  simp only [List.getElem?_toArray,List.getElem?_cons_zero,List.getElem?_cons_succ] at h0 h1 h2
  go_enter Tryz.func51,Tryz.ntmps51
  go_wp2_with fail
  refine (HCK.out _ HB.out).mono ?_
  rintro e W ⟨rfl,hb⟩
  have HB2:=Lib.hid (below_step HB.out hb)
  have hdr:=hold7 (W0:=W) ⟨Below.refl _ W,(B0.out.below hb).cell 0,(B0.out.below hb).cell 1,(B0.out.below hb).cell 2,(B0.out.below hb).cell 3,(B1.out.below hb).cell 0,(B1.out.below hb).cell 1,(B1.out.below hb).cell 2⟩ ((Below.refl _ W).drew)
  clear s0 s1 s2 s3 h0 h1 h2 HCK B0 B1 HB hb
  go_wp2_with fail
  go_region_held3 (fun w'=>Below W.heap.size W w'∧w'.cell? ⟨w.heap.size,0,none⟩=some v1∧w'.cell? ⟨w.heap.size,1,none⟩=some v2∧w'.cell? ⟨w.heap.size,2,none⟩=some v3∧w'.cell? ⟨w.heap.size,3,none⟩=some v4∧w'.cell? ⟨w.heap.size+1,0,none⟩=some vk∧w'.cell? ⟨w.heap.size+1,1,none⟩=some vs∧w'.cell? ⟨w.heap.size+1,2,none⟩=some vc) (first | exact hdr | assumption) (first | (go_at_call 85;(with_reducible refine (HCH.out _ (below_step HB2.out hdr.1)).mono ?_);rintro e w2 ⟨LB,rb,G,rfl,hg2,hG2,hb2⟩;have hn:=hold7 hdr hb2;clear hb2) | (go_at_call 84;(with_reducible refine (HSO.out _ _ _ _ _ (below_step HB2.out hn.1) hg2 hG2).mono ?_);rintro e w3 ⟨va,D,rfl,hrow,hD,hb3⟩;have hn3:=hold7 hn hb3;clear hb3))
  have HB3:=Lib.hid (below_step HB2.out hn3.1)
  have hDl:D.length≤4000:=by rw [← List.length_map (f:=(·.1)),hD];exact hln
  have HDA:=Lib.hid (ARd.of_dbs hrow)
  obtain ⟨aa,ca,eva⟩:=HDA.out.form
  rw [List.length_map] at eva
  subst eva
  have HDM:=Lib.hid hD
  have HR0:=Lib.hid (show w3.ownsRow w3.heap.size 45 2 (.slice none 0 0) ((D.take 0).map (·.1)).length (ppCs ((D.take 0).map (·.1))) from World.ownsRow_nil _ _ _ _)
  have HB0:=Lib.hid (Below.refl w3.heap.size w3)
  clear hdr hn hn3 hg2 hG2 hrow hD HCH HSO
  go_wp2
  go_loopw [8,9] (fun v x wr=>∃ i:Nat,i≤D.length∧x = .int .i64 i∧RowKit.Hid (wr.ownsRow w3.heap.size 45 2 v ((D.take i).map (·.1)).length (ppCs ((D.take i).map (·.1))))∧RowKit.Hid (Below w3.heap.size w3 wr)) (fun _ x _=>D.length-(intOf x).toNat)
  case atStart=>exact ⟨0,Nat.zero_le _,rfl,HR0,HB0⟩
  clear HR0 HB0
  obtain ⟨i,hi,rfl,hrow,hB⟩:=hrel
  by_cases hil:i<D.length
  · have hi2:(i:Int)<(D.length:Int):=by omega
    obtain ⟨b,o,c',ev,hbl,k0,k1⟩:=(HDA.out.later hB.out).dbAt i hil
    cases ev
    have HN:=Lib.hid (show (D.take (i+1)).map (·.1)=(D.take i).map (·.1)++[D[i].1] by rw [List.take_succ_eq_append_getElem hil,List.map_append];rfl)
    have hlen:((D.take i).map (·.1)).length≤4000:=by rw [List.length_map,List.length_take];omega
    obtain ⟨p,hp⟩:∃ p,D[i].1=p:=⟨_,rfl⟩
    rw [hp] at k0 k1 HN
    obtain ⟨M,hM⟩:∃ M,(D.take i).map (·.1)=M:=⟨_,rfl⟩
    rw [hM] at hrow hlen HN
    have hsz:=hB.out.size
    clear hp hM
    go_wp2_with (at_builtin;refine wpList_append_lies _ rfl _ _ 48 rfl w3.heap.size 45 i0 _ 2 16 Tryz.underlying48 hi0 hz0 hz1 hz2 rfl (by omega) _ _ _ rfl (hrow.out.alloc _) ⟨wr.heap.size,0,none⟩ 1 1 [.int .i64 p.1,.int .i64 p.2] rfl rfl (World.news_of_block (cs:=#[.int .i64 p.1,.int .i64 p.2]) (t:=45) (fr:=(0,0)) (heap_alloc_new wr _)) (by simp [Value.oneCell']) (by omega) (by unfold maxLen;omega) (by omega) (by simp;omega) (wr.heap.size+1) (by simp) ?_;intro gg cap w4 hown3 hgrow hat3 hlt3)
    have HP:=Lib.hid (pps_step (l:=M) (p:=p) hown3 rfl)
    rw [← HN.out] at HP
    have HB4:=Lib.hid (push_low hB.out hrow.out hgrow)
    clear hown3 hgrow hat3 hlt3
    go_wp2
    go_roundw
    case rel=>exact ⟨i+1,by omega,by go_num,by have:=HP.out;rw [HN.out] at this ⊢;simpa only [List.length_append] using Lib.hid this,HB4⟩
    case measure=>simp [intOf];omega
  · have hi2:¬ (i:Int)<(D.length:Int):=by omega
    have hie:i=D.length:=by omega
    rw [hie,List.take_length,HDM.out] at hrow
    clear hie
    go_wp2
    go_ret2
    exact ⟨_,rfl,row_base hrow.out HB3.out.size,below_step HB3.out hB.out⟩
set_option maxRecDepth 100000 in
set_option maxHeartbeats 6400000 in
theorem sounding34_any (v1 v2 v3 v4:Value) (S:Sp) (ok:SpOk S) (fp:Nat→Value) (l:List Ev) (hr:(recE S l).2=0) (vl:Value) (t:Int) (B:(Th→Int)→Pp→Bool) (hB:SndIs S B) (w:World) (hsp:SpRd w v1 v2 v3 v4 fp S) (hlv:ARd w vl 5 (l.map evC)) :
    Calls Tryz.prog 21 #[.agg #[v1,v2,v3,v4],vl,.int .i64 t] w (PpsR (sndL S B (upF l t)) w):=by
  have hro:=recE_ok hr
  have hon:=(hro.on hr (upN_spec hro.asc t).1).1
  have hpl:∀ x∈l,Placed x:=fun x hx=>by
    obtain ⟨i,hi,rfl⟩:=List.getElem_of_mem hx
    exact ev_placed hro.sp (hro.at' i hi).2
  have HB:=Lib.hid (show Below w.heap.size w (w.alloc (.cells #[v1,v2,v3,v4] 27)) from (Below.refl _ w).alloc (Nat.le_refl _) _)
  have B0:=Lib.hid (Blk.new w 27 #[v1,v2,v3,v4])
  have HHA:=Lib.hid (fun (W:World) (hb:Below w.heap.size w W)=>hand34_any v1 v2 v3 v4 S hro.sp fp l vl t W (hsp.later hb) (by have:=hro.len;omega) (hlv.later hb) hpl)
  have HPI:=Lib.hid (fun (W:World) (vk vs vc:Value) (hb:Below w.heap.size w W) (hh:HdRd W vk vs vc S (upF l t))=>pipes12_any v1 v2 v3 v4 S ok hro.sp fp vk vs vc (upF l t) hon B hB W (hsp.later hb) hh)
  clear hro hon hpl ok hr hB hsp hlv
  go_enter Tryz.func21,Tryz.ntmps21
  go_wp2_with fail
  generalize w.alloc (.cells #[v1,v2,v3,v4] 27)=W at *
  have hdr:=hold4 (W0:=W) ⟨Below.refl _ W,B0.out.cell 0,B0.out.cell 1,B0.out.cell 2,B0.out.cell 3⟩ ((Below.refl _ W).drew)
  clear B0
  go_region_held3 (fun w'=>Below W.heap.size W w'∧w'.cell? ⟨w.heap.size,0,none⟩=some v1∧w'.cell? ⟨w.heap.size,1,none⟩=some v2∧w'.cell? ⟨w.heap.size,2,none⟩=some v3∧w'.cell? ⟨w.heap.size,3,none⟩=some v4) (first | exact hdr | assumption) (first | (go_at_call 52;(with_reducible refine (HHA.out _ (below_step HB.out hdr.1)).mono ?_);rintro e w2 ⟨vk,vs,vc,rfl,hhd,hb2⟩;have hhd2:=hhd _ (fun _ _ _=>rfl);have hn:=hold4 hdr hb2;clear hb2 hhd) | (go_at_call 51;(with_reducible refine (HPI.out _ _ _ _ (below_step HB.out hn.1) hhd2).mono ?_);rintro e w3 ⟨va,rfl,hrow,hb3⟩;have hn3:=hold4 hn hb3;have hs3:=hn.1.size;clear hb3))
  all_goals
    (have HR:=Lib.hid (row_base hrow (Nat.le_trans HB.out.size hs3))
     have HB3:=Lib.hid (below_step HB.out hn3.1)
     clear hdr hn hn3 hrow HHA HPI hhd2
     go_wp2
     go_ret
     exact ⟨_,rfl,HR.out,HB3.out⟩)
end Go.Proofs.YthhfmppealmblaaGreatDoor
namespace Go.Proofs.YthhfmppealmblaaGreatDoor
open Go.RowKit
def upB (md:Region.Mode) (ops:Array Oper):Nat→Nat→Nat→Bool
 | 0,_,_=>false
 | f+1,k,i=>(List.range ops.size).any fun j=>Region.waitsFor md ops k j && (decide (j=i) || upB md ops f j i)
section
variable {P : Program} {md : Region.Mode} {ops : Array Oper} {Q : Exit → Act → World → Prop}
def Shut (md:Region.Mode) (ops:Array Oper) (ℓ:Nat→Bool):Prop:=∀ k j,ℓ k=true→Region.waitsFor md ops k j=true→ℓ j=true
theorem shut_up {ℓ:Nat→Bool} (h:Shut md ops ℓ):∀ (f k i:Nat),upB md ops f k i=true→ℓ i=false→ℓ k=false
 | 0,k,i,hu,_=>by cases hu
 | f+1,k,i,hu,hi=>by
  obtain ⟨j,_,hj⟩:=List.any_eq_true.1 hu
  rw [Bool.and_eq_true,Bool.or_eq_true,decide_eq_true_eq] at hj
  cases hk:ℓ k with
  | false=>rfl
  | true =>
   have h1:=h k j hk hj.1
   rcases hj.2 with e | e
   ·subst e;rw [hi] at h1;cases h1
   ·rw [shut_up h f j i e hi] at h1;cases h1
theorem shut_down {ℓ:Nat→Bool} (h:Shut md ops ℓ) {i:Nat} (hd:∀ j,Region.waitsFor md ops i j=true→ℓ j=true):∀ (f k:Nat),upB md ops f i k=true→ℓ k=true
 | 0,k,hu=>by cases hu
 | f+1,k,hu=>by
  obtain ⟨j,_,hj⟩:=List.any_eq_true.1 hu
  rw [Bool.and_eq_true,Bool.or_eq_true,decide_eq_true_eq] at hj
  have h1:=hd j hj.1
  rcases hj.2 with e | e
  ·subst e;exact h1
  ·cases hk:ℓ k with
   | true=>rfl
   | false=>rw [shut_up h f j k e hk] at h1;cases h1
def putX (x:Nat→Value):Option Nat→Value→Nat→Value
 | none,_=>x
 | some d,v=>upd x d v
def setB (ℓ:Nat→Bool) (i:Nat):Nat→Bool:=fun n=>if n=i then true else ℓ n
structure FlowJ (md:Region.Mode) (ops:Array Oper) (Res:Nat→Value→World→Prop) (J:(Nat→Bool)→(Nat→Value)→World→Prop) (ℓ:Nat→Bool) (x:Nat→Value) (w:World):Prop where
 j:J ℓ x w
 shut:Shut md ops ℓ
 res:∀ (i:Nat) (o:Oper) (d:Nat),ops[i]?=some o→o.dst=some d→ℓ i=true→(∃ k,ℓ k=false∧Region.waitsFor md ops k i=true)→Res i (x d) w
def FlowStep (P:Program) (md:Region.Mode) (ops:Array Oper) (Q:Exit→Act→World→Prop) (F:(Nat→Value)→Act) (Res:Nat→Value→World→Prop) (J:(Nat→Bool)→(Nat→Value)→World→Prop) (i:Nat) (o:Oper):Prop :=
 ∀ (ℓ:Nat→Bool) (x:Nat→Value) (w:World),J ℓ x w→ℓ i=false→(∀ f k,upB md ops f k i=true→ℓ k=false)→(∀ f k,upB md ops f i k=true→ℓ k=true)→(∀ j,Region.waitsFor md ops i j=true→∀ (o':Oper) (d':Nat),ops[j]?=some o'→o'.dst=some d'→Res j (x d') w) →
  ∀ K:Act→World→Prop,(∀ v w',J (setB ℓ i) (putX x o.dst v) w'→(∀ j v',ℓ j=true→(∃ k,k≠i∧ℓ k=false∧Region.waitsFor md ops k j=true)→Res j v' w→Res j v' w')→Res i v w'→K ((F x).put o.dst v) w')→wpOp P ops Q i K (F x) w
theorem flowJ_go (F:(Nat→Value)→Act) (Res:Nat→Value→World→Prop) (J:(Nat→Bool)→(Nat→Value)→World→Prop) (hback:backB md ops=true) (hapart:apartB ops=true)
  (hJ:∀ ℓ ℓ' x w,(∀ n,n<ops.size→ℓ n=ℓ' n)→J ℓ x w→J ℓ' x w)
  (hput:∀ (i:Nat) (o:Oper) (d:Nat),ops[i]?=some o→o.dst=some d→∀ x v,(F x).put (some d) v=F (upd x d v))
  (step:∀ (i:Nat) (o:Oper),ops[i]?=some o→FlowStep P md ops Q F Res J i o)
  (done:∀ ℓ x w,(∀ i,i<ops.size→ℓ i=true)→J ℓ x w→Q .normal (F x) w) :
  ∀ (fuel:Nat) (U:List Nat) (listed:Array Bool) (x:Nat→Value) (w:World),listed.size=ops.size→U.length≤fuel→(∀ i,i<ops.size→listed.getD i false=true∨i∈U)→FlowJ md ops Res J (fun n=>listed.getD n false) x w→wpAny P md ops Q fuel listed (F x) w:=by
 have all_done:∀ (listed:Array Bool) (x:Nat→Value) (w:World),(∀ i,i<ops.size→listed.getD i false=true)→FlowJ md ops Res J (fun n=>listed.getD n false) x w→Q .normal (F x) w:=fun listed x w hall hI=>done _ x w hall hI.j
 have none_left:∀ (listed:Array Bool),listed.size=ops.size→Region.ready md ops listed=[]→∀ i,i<ops.size→listed.getD i false=true:=by
  intro listed hsz hr i
  induction i using Nat.strongRecOn with
  | _ i ih =>
   intro hi
   cases hl:listed.getD i false with
   | true=>rfl
   | false =>
    have hm:i∈Region.ready md ops listed:=by
     obtain ⟨o,ho⟩:∃ o,ops[i]?=some o:=⟨ops[i],Array.getElem?_eq_getElem hi⟩
     exact mem_ready.2 ⟨getD_in (by rw [hsz];exact hi) hl,o,ho,fun e he hb=>by
      have hlt:=backB_spec hback ho e he hb
      exact ih e.on hlt (by omega)⟩
    rw [hr] at hm
    cases hm
 intro fuel
 induction fuel with
 | zero =>
  intro U listed x w hsz hU hL hI
  have hU0:U=[]:=List.length_eq_zero_iff.1 (Nat.le_zero.1 hU)
  subst hU0
  have hall:∀ i,i<ops.size→listed.getD i false=true:=fun i hi=>(hL i hi).resolve_right (by simp)
  refine ⟨?_,all_done listed x w hall hI⟩
  cases hr:Region.ready md ops listed with
  | nil=>rfl
  | cons j rest =>
   obtain ⟨h1,o,ho,_⟩:=mem_ready.1 (by rw [hr];exact List.mem_cons_self:j∈Region.ready md ops listed)
   have:=hall j (Array.getElem?_eq_some_iff.1 ho).1
   rw [getD_both h1] at this
   cases this
 | succ fuel ih =>
  intro U listed x w hsz hU hL hI
  refine ⟨fun hr=>all_done listed x w (none_left listed hsz hr) hI,fun i hi=>?_⟩
  obtain ⟨hun,o,ho,hall⟩:=mem_ready.1 hi
  have hil:i<ops.size:=(Array.getElem?_eq_some_iff.1 ho).1
  have hlf:listed.getD i false=false:=getD_both hun
  have hiU:i∈U:=(hL i hil).resolve_left (by rw [hlf];simp)
  have hdeps:∀ j,Region.waitsFor md ops i j=true→listed.getD j false=true:=fun j hw=>by
   obtain ⟨oi,hoi,e,he,hb,hon⟩:=Region.waitsFor_spec hw
   have:oi=o:=Option.some.inj (hoi.symm.trans ho)
   subst this
   rw [← hon]
   exact hall e he hb
  refine step i o ho (fun n=>listed.getD n false) x w hI.j hlf (fun f k hu=>shut_up hI.shut f k i hu hlf) (shut_down hI.shut hdeps) (fun j hw o' d' ho' hd'=>hI.res j o' d' ho' hd' (hdeps j hw) ⟨i,hlf,hw⟩) _ ?_
  intro v w' hj hkeep hres
  have hset:∀ n,n<ops.size→setB (fun n=>listed.getD n false) i n=(listed.setIfInBounds i true).getD n false:=fun n hn=>by
   unfold setB
   by_cases e:n=i
   ·subst e
    rw [if_pos rfl,Array.getD_eq_getD_getElem?,Array.getElem?_setIfInBounds_self_of_lt (by rw [hsz];exact hil)]
    rfl
   ·rw [if_neg e,getD_set_ne false (fun q=>e q.symm)]
  have hset2:∀ n,(listed.setIfInBounds i true).getD n false=true→n=i∨listed.getD n false=true:=fun n h=>by
   by_cases e:n=i
   ·exact .inl e
   ·rw [getD_set_ne false (fun q=>e q.symm)] at h
    exact .inr h
  have hset3:∀ n,listed.getD n false=true→(listed.setIfInBounds i true).getD n false=true:=fun n h=>by
   by_cases e:n=i
   ·subst e;rw [hlf] at h;cases h
   ·rw [getD_set_ne false (fun q=>e q.symm)]
    exact h
  have hL':∀ j,j<ops.size→(listed.setIfInBounds i true).getD j false=true∨j∈U.erase i:=fun j hj=>by
   by_cases e:j=i
   ·subst e
    left
    rw [Array.getD_eq_getD_getElem?,Array.getElem?_setIfInBounds_self_of_lt (by rw [hsz];exact hil)]
    rfl
   ·rcases hL j hj with h | h
    ·exact .inl (hset3 j h)
    ·exact .inr ((List.mem_erase_of_ne e).2 h)
  have hlen:(U.erase i).length≤fuel:=by rw [List.length_erase_of_mem hiU];omega
  have hj':J (fun n=>(listed.setIfInBounds i true).getD n false) (putX x o.dst v) w':=hJ _ _ _ _ hset hj
  have hshut':Shut md ops (fun n=>(listed.setIfInBounds i true).getD n false):=fun k j hk hw=>by
   rcases hset2 k hk with e | e
   ·subst e;exact hset3 j (hdeps j hw)
   ·exact hset3 j (hI.shut k j e hw)
  have hres':∀ (x':Nat→Value),(∀ j o' d',ops[j]?=some o'→o'.dst=some d'→j≠i→x' d'=x d')→(∀ d,o.dst=some d→x' d=v)→∀ (j:Nat) (o':Oper) (d':Nat),ops[j]?=some o'→o'.dst=some d'→(listed.setIfInBounds i true).getD j false=true→(∃ k,(listed.setIfInBounds i true).getD k false=false∧Region.waitsFor md ops k j=true)→Res j (x' d') w':=by
   intro x' hx1 hx2 j o' d' ho' hd' hlj hpend
   by_cases e:j=i
   ·subst e
    have:o'=o:=Option.some.inj (ho'.symm.trans ho)
    subst this
    rw [hx2 d' hd']
    exact hres
   ·rw [hx1 j o' d' ho' hd' e]
    have hlj2:=(hset2 j hlj).resolve_left e
    obtain ⟨k,hk,hkw⟩:=hpend
    have hki:k≠i:=fun q=>by
     subst q
     rw [Array.getD_eq_getD_getElem?,Array.getElem?_setIfInBounds_self_of_lt (by rw [hsz];exact hil)] at hk
     cases hk
    rw [getD_set_ne false (fun q=>hki q.symm)] at hk
    exact hkeep j _ hlj2 ⟨k,hki,hk,hkw⟩ (hI.res j o' d' ho' hd' hlj2 ⟨k,hk,hkw⟩)
  cases hd:o.dst with
  | none =>
   rw [hd] at hj'
   rw [show (F x).put none v=F x from rfl]
   exact ih (U.erase i) _ x w' (by simpa using hsz) hlen hL' ⟨hj',hshut',hres' x (fun _ _ _ _ _ _=>rfl) (fun d q=>by rw [hd] at q;cases q)⟩
  | some d =>
   rw [hd] at hj'
   rw [hput i o d ho hd]
   refine ih (U.erase i) _ _ w' (by simpa using hsz) hlen hL' ⟨hj',hshut',hres' (upd x d v) (fun j o' d' ho' hd' hne=>upd_other x v (apartB_spec hapart ho' ho hd' hd hne)) (fun d' q=>?_)⟩
   rw [hd] at q
   obtain rfl:=Option.some.inj q
   exact upd_same _ _ _
def JA (A S:Nat) (w0:World) (Final:(Nat→Value)→World→Prop) (ℓ:Nat→Bool) (x:Nat→Value) (z:World):Prop:=(ℓ A=false→Below w0.heap.size w0 z)∧(ℓ S=true→Final x z)
theorem ja_cong {A S:Nat} {w0:World} {Final:(Nat→Value)→World→Prop} (hA:A<ops.size) (hS:S<ops.size) (ℓ ℓ':Nat→Bool) (x:Nat→Value) (w:World) (h:∀ n,n<ops.size→ℓ n=ℓ' n) (hj:JA A S w0 Final ℓ x w):JA A S w0 Final ℓ' x w:=⟨fun q=>hj.1 ((h A hA).trans q),fun q=>hj.2 ((h S hS).trans q)⟩
theorem ja_start {A S:Nat} {w0:World} {Final:(Nat→Value)→World→Prop} (hS:S<ops.size) {x:Nat→Value} (ℓ:Nat→Bool) (h:∀ n,n<ops.size→ℓ n=false):JA A S w0 Final ℓ x w0.drew:=⟨fun _=>(Below.refl _ _).drew,fun q=>by rw [h S hS] at q;cases q⟩
theorem ja_plain {A S i:Nat} {w0 w w':World} {Final:(Nat→Value)→World→Prop} {ℓ:Nat→Bool} {x x':Nat→Value} (hj:JA A S w0 Final ℓ x w) (hA:i≠A) (hS:i≠S) (hS2:ℓ S=false) (hb:Below w.heap.size w w'):JA A S w0 Final (setB ℓ i) x' w':=by
 refine ⟨fun q=>?_,fun q=>?_⟩
 ·rw [setB,if_neg (fun e=>hA e.symm)] at q
  have h1:=hj.1 q
  exact h1.trans (hb.mono h1.size)
 ·rw [setB,if_neg (fun e=>hS e.symm),hS2] at q
  cases q
theorem ja_mid {A S:Nat} {w0 w':World} {Final:(Nat→Value)→World→Prop} {ℓ:Nat→Bool} {x:Nat→Value} (hAS:S≠A) (hS2:ℓ S=false):JA A S w0 Final (setB ℓ A) x w':=by
 refine ⟨fun q=>?_,fun q=>?_⟩
 ·rw [setB,if_pos rfl] at q;cases q
 ·rw [setB,if_neg hAS,hS2] at q;cases q
theorem ja_last {A S:Nat} {w0 w':World} {Final:(Nat→Value)→World→Prop} {ℓ:Nat→Bool} {x:Nat→Value} (hA:A=S∨ℓ A=true) (hf:Final x w'):JA A S w0 Final (setB ℓ S) x w':=by
 refine ⟨fun q=>?_,fun _=>hf⟩
 unfold setB at q
 by_cases e:A=S
 ·rw [if_pos e] at q;cases q
 ·rw [if_neg e,hA.resolve_left e] at q;cases q
def lastB (md:Region.Mode) (ops:Array Oper) (i:Nat):Bool:=(List.range ops.size).all fun k=>decide (k=i) || upB md ops 3 i k
theorem lastB_spec {i:Nat} (h:lastB md ops i=true) {ℓ:Nat→Bool} (hd:∀ f k,upB md ops f i k=true→ℓ k=true) {j:Nat}:¬ ∃ k,k≠i∧ℓ k=false∧Region.waitsFor md ops k j=true:=by
 rintro ⟨k,hk,hl,hw⟩
 obtain ⟨ok,hok,_⟩:=Region.waitsFor_spec hw
 have h1:=List.all_eq_true.1 h k (List.mem_range.2 (Array.getElem?_eq_some_iff.1 hok).1)
 rw [Bool.or_eq_true,decide_eq_true_eq] at h1
 rw [hd 3 k (h1.resolve_left hk)] at hl
 cases hl
theorem wp_region_flowJ {id:Nat} (F:(Nat→Value)→Act) (Res:Nat→Value→World→Prop) (J:(Nat→Bool)→(Nat→Value)→World→Prop) {a:Act} (x0:Nat→Value) {w:World} (ha:a=F x0) (hm:P.follows .mixedOrders=true) (hback:backB .any ops=true) (hapart:apartB ops=true)
  (start:∀ ℓ,(∀ n,n<ops.size→ℓ n=false)→J ℓ x0 w.drew)
  (hJ:∀ ℓ ℓ' x w,(∀ n,n<ops.size→ℓ n=ℓ' n)→J ℓ x w→J ℓ' x w)
  (hput:∀ (i:Nat) (o:Oper) (d:Nat),ops[i]?=some o→o.dst=some d→∀ x v,(F x).put (some d) v=F (upd x d v))
  (step:∀ (i:Nat) (o:Oper),ops[i]?=some o→FlowStep P .any ops Q F Res J i o)
  (done:∀ ℓ x w,(∀ i,i<ops.size→ℓ i=true)→J ℓ x w→Q .normal (F x) w):(Code.region id ops true).wp P Q a w:=by
 subst ha
 refine wp_region_any hm ?_
 have h0:∀ n,(Array.replicate ops.size false).getD n false=false:=fun n=>by
  cases h:(Array.replicate ops.size false).getD n false with
  | false=>rfl
  | true=>rw [getD_replicate_false] at h;cases h
 refine flowJ_go F Res J hback hapart hJ hput step done ops.size (List.range ops.size) _ x0 _ (by simp) (by simp) (fun i hi => .inr (List.mem_range.2 hi)) ⟨start _ (fun n _=>h0 n),fun k j hk _=>?_,fun i o d _ _ hl=>?_⟩
 ·rw [h0] at hk;cases hk
 ·rw [h0] at hl;cases hl
end
theorem wp_normal {P:Program} {c:Code} {Q:Exit→Act→World→Prop} {a:Act} {w:World} (h:c.wp P (Exit.then (fun a w=>Q .normal a w) (fun _ _ _=>False)) a w):c.wp P Q a w:=by
 refine Code.wp_mono ?_ h
 intro e a' w' hq
 cases e with
 | normal=>exact hq
 | exit id=>exact hq.elim
 | goto l=>exact hq.elim
 | ret=>exact hq.elim
 | panic ch=>exact hq.elim
 | outgrown=>exact hq.elim
end Go.Proofs.YthhfmppealmblaaGreatDoor
namespace Go.Proofs.YthhfmppealmblaaGreatDoor
open Go.RowKit
theorem row_apart {W:World} {b b2:Nat} {t t2:TypeId} {k k2 n n2:Nat} {v v2:Value} {xs xs2:List Value} (h:W.ownsRow b t k v n xs) (h2:W.ownsRow b2 t2 k2 v2 n2 xs2) (hne:t≠t2):v.ownBlock=none∨v.ownBlock≠v2.ownBlock:=by
 rcases h.2 with ⟨rfl,_⟩ | ⟨g,cap,cur,rfl,_,hg,_⟩
 ·exact .inl rfl
 ·right
  rcases h2.2 with ⟨rfl,_⟩ | ⟨g2,cap2,cur2,rfl,_,hg2,_⟩
  ·simp [Value.ownBlock]
  ·intro q
   have q2:g=g2:=by simpa [Value.ownBlock] using q
   subst q2
   rw [hg] at hg2
   cases hg2
   exact hne rfl
theorem clsE_ne {S:Sp} {l:List Ev} {cls:List Cl} (h:audE S l≠0):clsE S l cls=audE S l:=if_neg h
theorem clsE_long {S:Sp} {l:List Ev} {cls:List Cl} (h:audE S l=0) (h2:20000<cls.length):clsE S l cls=3:=by unfold clsE;rw [if_pos h,if_pos h2]
theorem clsE_at {S:Sp} {l:List Ev} {cls:List Cl} (h:audE S l=0) (h2:cls.length≤20000) {i:Nat} (hi:i<cls.length) (h3:∀ j (hj:j<cls.length),j<i→clE S cls[j]=0) (h4:clE S cls[i]≠0):clsE S l cls=clE S cls[i]:=by
 have e:clsF S cls i=clE S cls[i]:=by unfold clsF;rw [getD_at hi]
 unfold clsE
 rw [if_pos h,if_neg (by omega),fst0_some hi (by rw [e];exact h4) (fun j hj=>by unfold clsF;rw [getD_at (by omega)];exact h3 j (by omega) hj)]
 exact e
theorem clsE_zero {S:Sp} {l:List Ev} {cls:List Cl} (h:audE S l=0) (h2:cls.length≤20000) (h3:∀ j (hj:j<cls.length),clE S cls[j]=0):clsE S l cls=0:=by
 unfold clsE
 rw [if_pos h,if_neg (by omega),fst0_none.2 (fun i hi=>by unfold clsF;rw [getD_at hi];exact h3 i hi)]
def CsR (S:Sp) (B:(Th→Int)→Pp→Bool) (l:List Ev) (cls:List Cl) (w:World) (e:Ending) (w':World):Prop:=∃ v m c,e = .returned (.tuple #[v,.int .i64 c])∧w'.ownsRow w.heap.size 52 5 v m.length (faCs m)∧ClP S B l cls m c∧Below w.heap.size w w'
end Go.Proofs.YthhfmppealmblaaGreatDoor
namespace Go.Proofs.YthhfmppealmblaaGreatDoor
open Go.RowKit
section
variable {P : Program} {md : Region.Mode} {ops : Array Oper}
end
end Go.Proofs.YthhfmppealmblaaGreatDoor
