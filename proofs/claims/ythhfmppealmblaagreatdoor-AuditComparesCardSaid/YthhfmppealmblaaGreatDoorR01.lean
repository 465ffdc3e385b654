/-
  A part of the proof: AK4, AK5.
-/
import Derived.Test.YthhfmppealmblaaGreatDoorQ35
namespace Go.Proofs.YthhfmppealmblaaGreatDoor
open Go.RowKit
theorem ev_info : (Tryz.prog.info? 42).map (fun i => (i.zero,i.size,i.bytes)) = some (some (.agg #[.int .i64 0,.int .i64 0,.int .i64 0,.int .i64 0,.int .i64 0]),5,40):=by kernel_rfl
end Go.Proofs.YthhfmppealmblaaGreatDoor
namespace Go.Proofs.YthhfmppealmblaaGreatDoor
open Go.RowKit
def JD (S d:Nat) (v0:Value) (J:(Nat→Bool)→(Nat→Value)→World→Prop) (ℓ:Nat→Bool) (x:Nat→Value) (z:World):Prop:=J ℓ x z∧(ℓ S=false→x d=v0)
theorem jd_start {S d:Nat} {v0:Value} {J:(Nat→Bool)→(Nat→Value)→World→Prop} {n:Nat} {x:Nat→Value} {w:World} (h:∀ ℓ:Nat→Bool,(∀ k,k < n→ℓ k=false)→J ℓ x w) (hx:x d=v0) (ℓ:Nat→Bool) (hl:∀ k,k < n→ℓ k=false):JD S d v0 J ℓ x w:=⟨h ℓ hl,fun _=>hx⟩
theorem jd_cong {S d:Nat} {v0:Value} {J:(Nat→Bool)→(Nat→Value)→World→Prop} {n:Nat} (hS:S < n) (h:∀ (ℓ ℓ':Nat→Bool) (x:Nat→Value) (w:World),(∀ k,k < n→ℓ k=ℓ' k)→J ℓ x w→J ℓ' x w) (ℓ ℓ':Nat→Bool) (x:Nat→Value) (w:World) (hl:∀ k,k < n→ℓ k=ℓ' k) (hj:JD S d v0 J ℓ x w):JD S d v0 J ℓ' x w:=⟨h ℓ ℓ' x w hl hj.1,fun q=>hj.2 ((hl S hS).trans q)⟩
theorem jd_plain {S d i:Nat} {v0:Value} {J:(Nat→Bool)→(Nat→Value)→World→Prop} {ℓ:Nat→Bool} {x x':Nat→Value} {w w':World} (hj:JD S d v0 J ℓ x w) (h:J (setB ℓ i) x' w') (hS:i≠S) (hx:x' d=x d):JD S d v0 J (setB ℓ i) x' w' :=
 ⟨h,fun q=>by rw [setB,if_neg (fun e=>hS e.symm)] at q; exact hx.trans (hj.2 q)⟩
theorem jd_last {S d:Nat} {v0:Value} {J:(Nat→Bool)→(Nat→Value)→World→Prop} {ℓ:Nat→Bool} {x':Nat→Value} {w':World} (h:J (setB ℓ S) x' w'):JD S d v0 J (setB ℓ S) x' w' :=
 ⟨h,fun q=>by rw [setB,if_pos rfl] at q; cases q⟩
theorem row_form {W:World} {base:Nat} {t:TypeId} {k n:Nat} {v:Value} {xs:List Value} (h:W.ownsRow base t k v n xs):∃ a n c,v = .slice a n c:=by
 rcases h.2 with ⟨rfl,_⟩ | ⟨g,cap,cur,rfl,_⟩
 ·exact ⟨_,_,_,rfl⟩
 ·exact ⟨_,_,_,rfl⟩
theorem mo_info:(Tryz.prog.info? 97).map (fun i=>(i.zero,i.size,i.bytes))=some (some (.agg #[.int .i64 0,.slice none 0 0,.slice none 0 0]),3,56):=by kernel_rfl
theorem audE_parts {S:Sp} {l:List Ev} (h:audE S l=0):(checkP S).2=0∧(recE S l).2=0:=by
 unfold audE at h
 split at h
 ·rename_i q
  split at h
  ·rename_i q2
   exact ⟨q,q2⟩
  ·cases h
 ·rename_i q
  exact absurd h q
end Go.Proofs.YthhfmppealmblaaGreatDoor
namespace Go.Proofs.YthhfmppealmblaaGreatDoor
open Go.RowKit
theorem kdTw_ref (S:Sp) (B:(Th→Int)→Pp→Bool) (a b:List Ev):faAll (fun p t=>kdRef (decide (p∈sndL S B (upF a t))) (decide (p∈sndL S B (upF b t)))) (allFrom 0 S.rs) (ticksL (ticksL [] a) b)=faTw S B a b :=
 faAll_cong fun p hp t=>by rw [in_sndL hp,in_sndL hp]; rfl
theorem ticksL_append (ts:List Int) (a b:List Ev):ticksL ts (a ++ b)=ticksL (ticksL ts a) b:=by unfold ticksL; rw [List.foldl_append]
theorem len_ticksA (a b:List Ev):(ticksL (ticksL [] a) b).length≤a.length + b.length:=by
 rw [← ticksL_append]
 have:=len_ticksL [] (a ++ b)
 rw [List.length_append,List.length_nil] at this
 omega
def CmR (S:Sp) (B:(Th→Int)→Pp→Bool) (a b:List Ev) (w:World) (e:Ending) (w':World):Prop:=∃ v m c,e = .returned (.tuple #[v,.int .i64 c])∧w'.ownsRow w.heap.size 52 5 v m.length (faCs m)∧TwP S B a b m c∧Below w.heap.size w w'
theorem twE_a {S:Sp} {a b:List Ev} (h:audE S a≠0):twE S a b=audE S a:=if_neg h
theorem twE_b {S:Sp} {a b:List Ev} (h:audE S a=0):twE S a b=audE S b:=if_pos h
theorem append_ev (W:World) (base:Nat) (V:Value) (xs:List Ev) (hown:W.ownsRow base 42 5 V xs.length (xs.map evC).flatten) (v:Value) (l:List Ev) (hv:ARd W v 5 (l.map evC)) (hl:xs.length + l.length≤1000000000) (hb:base≤W.heap.size) :
  ∃ V' w',(Builtin.append_ #[28,28] 28 #[V,v]).run Tryz.prog W = .ok V' w'∧w'.ownsRow base 42 5 V' (xs ++ l).length ((xs ++ l).map evC).flatten∧W.grownBy w' V.ownBlock:=by
 obtain ⟨i0,hi,hz0,hz1,hz2⟩:=info_parts ev_info
 obtain ⟨V',w',h1,h2,h3⟩:=append_src W base 28 42 i0 _ 5 40 Tryz.underlying28 hi hz0 hz1 hz2 rfl (by omega) (by omega) V xs.length _ hown v (l.map evC) (by intro r hr; obtain ⟨p,_,rfl⟩:=List.mem_map.1 hr; rfl) (by intro u hu; obtain ⟨r,hr,hu⟩:=List.mem_flatten.1 hu; obtain ⟨p,_,rfl⟩:=List.mem_map.1 hr; simp only [evC,List.mem_cons,List.not_mem_nil,or_false] at hu; rcases hu with rfl | rfl | rfl | rfl | rfl <;> rfl) hv (by simpa using hl) hb
 refine ⟨V',w',h1,?_,h3⟩
 rw [List.length_map] at h2
 rw [List.length_append,List.map_append,List.flatten_append]
 exact h2
theorem row_emptyE (w:World) (t:TypeId):(w.alloc (.cells #[] t)).ownsRow w.heap.size t 5 (.slice (some ⟨w.heap.size,0,none⟩) 0 0) ([]:List Ev).length (([]:List Ev).map evC).flatten :=
 ⟨rfl,.inr ⟨w.heap.size,0,#[],rfl,Nat.le_refl _,World.alloc_heap_new w _,Nat.le_refl _,Nat.zero_le _,rfl,rfl⟩⟩
theorem join_evs (w:World) (la lb:List Ev) (va vb:Value) (hla:ARd w va 5 (la.map evC)) (hlb:ARd w vb 5 (lb.map evC)) (hn:la.length + lb.length≤1000000) :
  ∃ V1 w1 V2 w2,(Builtin.append_ #[28,28] 28 #[.slice (some ⟨w.heap.size,0,none⟩) 0 0,va]).run Tryz.prog (w.alloc (.cells #[] 42)) = .ok V1 w1 ∧
   (Builtin.append_ #[28,28] 28 #[V1,vb]).run Tryz.prog w1 = .ok V2 w2∧ARd w2 V2 5 ((la ++ lb).map evC)∧Below w.heap.size w w2:=by
 have hb0:Below w.heap.size w (w.alloc (.cells #[] 42)):=(Below.refl _ _).alloc (Nat.le_refl _) _
 obtain ⟨V1,w1,r1,o1,g1⟩:=append_ev _ w.heap.size _ [] (row_emptyE w _) va la (hla.later hb0) (by simp; omega) hb0.size
 rw [List.nil_append] at o1
 have hb1:Below w.heap.size w w1:=hb0.grown g1 hb0.size (fun j e=>by simp [Value.ownBlock] at e; omega)
 obtain ⟨V2,w2,r2,o2,g2⟩:=append_ev _ w.heap.size _ la o1 vb lb (hlb.later hb1) (by omega) hb1.size
 refine ⟨V1,w1,V2,w2,r1,r2,ARd.of_row (by intro r hr; obtain ⟨p,_,rfl⟩:=List.mem_map.1 hr; rfl) (by rw [List.length_map]; exact o2),hb1.grown g2 hb1.size (fun j e=>row_ge o1 e)⟩
set_option maxRecDepth 100000 in
set_option maxHeartbeats 12800000 in
theorem compare34_any (v1 v2 v3 v4:Value) (S:Sp) (ok:SpOk S) (fp:Nat→Value) (la:List Ev) (va:Value) (lb:List Ev) (vb:Value) (B:(Th→Int)→Pp→Bool) (hB:SndIs S B) (w:World) (hsp:SpRd w v1 v2 v3 v4 fp S) (hla:ARd w va 5 (la.map evC)) (hlb:ARd w vb 5 (lb.map evC)) (hl:la.length≤50000) (hl2:lb.length≤50000) (hsm:audE S la=0→la.length≤100) (hsm2:audE S lb=0→lb.length≤100) :
  Calls Tryz.prog 25 #[.agg #[v1,v2,v3,v4],va,vb] w (CmR S B la lb w):=by
 obtain ⟨i0,hi0,hz0,hz1,hz2⟩:=info_parts mo_info
 have HB0:=Lib.hid (show Below w.heap.size w (w.alloc (.cells #[v1,v2,v3,v4] 27)) from (Below.refl _ w).alloc (Nat.le_refl _) _)
 have B0:=Lib.hid (Blk.new w 27 #[v1,v2,v3,v4])
 have HCA:=Lib.hid (fun (W:World) (hb:Below w.heap.size w W)=>rcheck34_any v1 v2 v3 v4 S ok fp la va W (hsp.later hb) (by omega) (hla.later hb))
 have HCB:=Lib.hid (fun (W:World) (hb:Below w.heap.size w W)=>rcheck34_any v1 v2 v3 v4 S ok fp lb vb W (hsp.later hb) (by omega) (hlb.later hb))
 have HTK:=Lib.hid (fun (l:List Ev) (vl:Value) (W:World) (h:ARd W vl 5 (l.map evC)) (hl:l.length≤50000)=>ticks34_any l vl W h hl)
 have HSA:=Lib.hid (fun (h0:(recE S la).2=0) (t:Int) (W:World) (hb:Below w.heap.size w W)=>sounding34_any v1 v2 v3 v4 S ok fp la h0 va t B hB W (hsp.later hb) (hla.later hb))
 have HSB:=Lib.hid (fun (h0:(recE S lb).2=0) (t:Int) (W:World) (hb:Below w.heap.size w W)=>sounding34_any v1 v2 v3 v4 S ok fp lb h0 vb t B hB W (hsp.later hb) (hlb.later hb))
 have HFA:=Lib.hid (fun (h0:(checkP S).2=0) (MM:List Mo) (vm:Value) (W:World) (base:Nat) (hb:Below w.heap.size w W) (hm:MoI base (fun t=>sndL S B (upF la t)) (fun t=>sndL S B (upF lb t)) MM vm W) (hlm:MM.length≤1000) (hts:MM.map (·.1)=ticksL (ticksL [] la) lb)=>by
  have h1:=faults34_any v1 v2 v3 v4 S h0 fp (fun t=>sndL S B (upF la t)) (fun t=>sndL S B (upF lb t)) MM vm W (hsp.later hb) hm.ard.1 hm.ard.2 hlm (fun t=>⟨by have:=sndL_len h0 B (upF la t); omega,by have:=sndL_len h0 B (upF lb t); omega⟩) (by rw [hts]; exact asc_ticksL (asc_ticksL List.Pairwise.nil))
  rw [hts,kdTw_ref] at h1
  exact h1)
 have HLA:=Lib.hid hla
 have HLB:=Lib.hid hlb
 have HSM:=Lib.hid (And.intro hsm hsm2)
 obtain ⟨s0,s1,s2,s3⟩:=B0.out.four
 clear hsp hla hlb hsm hsm2 ok hB
 go_enter Tryz.func25,Tryz.ntmps25
 go_wp2_with fail
 refine (HCA.out _ HB0.out).mono ?_
 rintro e W ⟨rfl,hb⟩
 have HB1:=Lib.hid (below_step HB0.out hb)
 have B1:=Lib.hid (B0.out.below hb)
 clear HCA hb B0 HB0 s0 s1 s2 s3
 by_cases hE:audE S la=0
 case neg =>
  have HN:=Lib.hid (twE_a (b:=lb) hE)
  have HE:=Lib.hid hE
  obtain ⟨e0,he0⟩:∃ e0,audE S la=e0:=⟨_,rfl⟩
  rw [he0] at HN HE hE ⊢
  have q1:(e0 == 0)=false:=by simpa using hE
  clear he0 hE
  go_wp2
  go_ret2
  exact ⟨_,[],_,rfl,World.ownsRow_nil _ _ _ _,.inl ⟨by rw [HN.out]; exact HE.out,rfl,HN.out.symm⟩,HB1.out⟩
 rw [hE]
 obtain ⟨u0,u1,u2,u3⟩:=B1.out.four
 go_wp2_with fail
 refine (HCB.out _ HB1.out).mono ?_
 rintro e W2 ⟨rfl,hb⟩
 have HB2:=Lib.hid (below_step HB1.out hb)
 have B2:=Lib.hid (B1.out.below hb)
 have HN:=Lib.hid (twE_b (b:=lb) hE)
 clear HCB hb B1 HB1 u0 u1 u2 u3
 by_cases hE2:audE S lb=0
 case neg =>
  have HE:=Lib.hid hE2
  obtain ⟨e0,he0⟩:∃ e0,audE S lb=e0:=⟨_,rfl⟩
  rw [he0] at HN HE hE2 ⊢
  have q1:(e0 == 0)=false:=by simpa using hE2
  clear he0 hE2 hE
  go_wp2
  go_ret2
  exact ⟨_,[],_,rfl,World.ownsRow_nil _ _ _ _,.inl ⟨by rw [HN.out]; exact HE.out,rfl,HN.out.symm⟩,HB2.out⟩
 rw [hE2]
 have hla1:=HSM.out.1 hE
 have hlb1:=HSM.out.2 hE2
 obtain ⟨hck,hrk⟩:=audE_parts hE
 obtain ⟨_,hrk2⟩:=audE_parts hE2
 have HZ:=Lib.hid (show twE S la lb=0 by rw [HN.out]; exact hE2)
 have HSA2:=Lib.hid (HSA.out hrk)
 have HSB2:=Lib.hid (HSB.out hrk2)
 have HFA2:=Lib.hid (HFA.out hck)
 clear hE hE2 HSA HSB HFA hck hrk hrk2 HSM HN
 obtain ⟨V1,w1,V2,w2,hr1,hr2,hard,hb⟩:=join_evs W2 la lb va vb (HLA.out.later HB2.out) (HLB.out.later HB2.out) (by omega)
 have HTK2:=Lib.hid (HTK.out (la ++ lb) V2 w2 hard (by rw [List.length_append]; omega))
 have HB3:=Lib.hid (below_step HB2.out hb)
 have B3:=Lib.hid (B2.out.below hb)
 have HLT:=len_ticksA la lb
 rw [ticksL_append] at HTK2
 obtain ⟨T,hTn⟩:∃ T,ticksL (ticksL [] la) lb=T:=⟨_,rfl⟩
 rw [hTn] at HTK2 HLT
 have HTT:=Lib.hid hTn
 have hlT:T.length≤1000:=by omega
 obtain ⟨F,hFn⟩:∃ F:Int→List Pp,(fun t=>sndL S B (upF la t))=F:=⟨_,rfl⟩
 obtain ⟨C,hCn⟩:∃ C:Int→List Pp,(fun t=>sndL S B (upF lb t))=C:=⟨_,rfl⟩
 have HSO3:=Lib.hid (show ∀ (t:Int) (W:World),Below w.heap.size w W→Calls Tryz.prog 21 #[.agg #[v1,v2,v3,v4],va,.int .i64 t] W (PpsR (F t) W) from fun t W hb=>by have h5:=HSA2.out t W hb; rw [← hFn]; exact h5)
 have HSD3:=Lib.hid (show ∀ (t:Int) (W:World),Below w.heap.size w W→Calls Tryz.prog 21 #[.agg #[v1,v2,v3,v4],vb,.int .i64 t] W (PpsR (C t) W) from fun t W hb=>by have h5:=HSB2.out t W hb; rw [← hCn]; exact h5)
 have HFA3:=Lib.hid HFA2.out
 rw [hFn,hCn] at HFA3
 have HZZ:=HZ
 clear hard hb HTK B2 HB2 HLT hTn hFn hCn HSA2 HSB2 HFA2 hl hl2 hla1 hlb1 HLA HLB
 go_wp2_with (first | (at_builtin; refine Lib.wpList_append_run _ rfl _ _ _ _ rfl _ _ rfl rfl _ _ hr1 ?_) | (at_builtin; refine Lib.wpList_append_run _ rfl _ _ _ _ rfl _ _ rfl rfl _ _ hr2 ?_) | fail)
 refine (HTK2.out).mono ?_
 rintro e W3 ⟨vt,rfl,ht,hb⟩
 have hT:=Lib.hid ht
 have HBW:=Lib.hid (below_step HB3.out hb)
 replace HB3:=Lib.hid (B3.out.below hb)
 obtain ⟨ta,tc,etv⟩:=ht.rd.intForm
 subst etv
 have HM0:=Lib.hid (MoI.start W3.heap.size F C W3)
 have HR0:=Lib.hid (Below.refl W3.heap.size W3)
 have HN0:Hid (([]:List Mo).map (·.1)=T.take 0):=Lib.hid rfl
 clear ht hb B3 HTK2 hr1 hr2
 go_wp2
 go_loopw [10,11] (fun v x wx=>∃ (i:Nat) (MM:List Mo),i≤T.length∧x = .int .i64 i∧RowKit.Hid (MM.map (·.1)=T.take i)∧RowKit.Hid (MoI W3.heap.size F C MM v wx)∧RowKit.Hid (Below W3.heap.size W3 wx)) (fun _ x _=>T.length - (intOf x).toNat)
 case atStart=>exact ⟨0,[],Nat.zero_le _,rfl,HN0,HM0,HR0⟩
 clear HN0 HM0 HR0
 obtain ⟨j,MM,hj,rfl,hN,hM,hJ⟩:=hrel
 by_cases hjl:j < T.length
 ·have hi3:(j:Int) < (T.length:Int):=by omega
  obtain ⟨bt,ot,c',ev,hbt,q0⟩:=hT.out.rd.intAt j hjl
  cases ev
  have hNX:(MM ++ [(T[j],Value.int .i64 0,Value.int .i64 0)]).map (·.1)=T.take (j + 1):=by rw [List.map_append,hN.out,List.take_succ_eq_append_getElem hjl]; rfl
  obtain ⟨tk,htk⟩:∃ tk,T[j]=tk:=⟨_,rfl⟩
  rw [htk] at q0 hNX
  have HNX:=Lib.hid (show ∀ s c,(MM ++ [((tk,s,c):Mo)]).map (·.1)=T.take (j + 1) from fun s c=>by rw [← hNX,List.map_append,List.map_append]; rfl)
  have HQ0:=Lib.hid q0
  have hmml:MM.length≤1000:=by rw [← List.length_map (f:=(·.1)),hN.out,List.length_take]; omega
  clear q0 hNX htk hN
  go_upto_region 11 with fail
  have hmxx:Tryz.prog.follows .mixedOrders=true:=by kernel_rfl
  refine wp_normal (wp_region_flowJ (fun xX=>{ tmps:=#[.agg #[v1,v2,v3,v4],va,vb,.pointer (some ⟨w.heap.size,0,none⟩),undef,undef,.slice none 0 0,.int .i64 0,.int .i64 0,.slice (some ⟨bt,ot,none⟩) T.length tc,(xX 10),.int .i64 (j:Int),.agg #[v1,v2,v3,v4],va,.int .i64 0,.int .i64 0,.bool true,.agg #[v1,v2,v3,v4],vb,.int .i64 0,.int .i64 0,.bool false,undef,.slice (some ⟨W2.heap.size,0,none⟩) 0 0,va,V1,vb,V2,.slice (some ⟨bt,ot,none⟩) T.length tc,.int .i64 (j:Int),.slice (some ⟨bt,ot,none⟩) T.length tc,.int .i64 (T.length:Int),.bool true,u33,u34,(xX 35),(xX 36),(xX 37),(xX 38),(xX 39),(xX 40),(xX 41),(xX 42),(xX 43),(xX 44),(xX 45),(xX 46),(xX 47),(xX 48),(xX 49),(xX 50),(xX 51),(xX 52),(xX 53),(xX 54),(xX 55),(xX 56),undef,undef,undef,undef,undef],defers:=[] }) (fun iI v z=>match iI with
   | 0=>v=u10
   | 1=>v = .slice (some ⟨bt,ot,none⟩) T.length tc
   | 2=>v = .int .i64 j
   | 3=>v = .pointer (some ⟨bt,ot + j,none⟩)
   | 4=>v = .int .i64 tk
   | 5=>v = .agg #[v1,v2,v3,v4]
   | 6=>v=va
   | 7=>v = .slice (some ⟨bt,ot,none⟩) T.length tc
   | 8=>v = .int .i64 j
   | 9=>v = .pointer (some ⟨bt,ot + j,none⟩)
   | 10=>v = .int .i64 tk
   | 11=>∃ (sa:Option Addr) (sn sc:Nat),v = .slice sa sn sc∧z.ownsRow W3.heap.size 45 2 (.slice sa sn sc) (F tk).length (ppCs (F tk))
   | 12=>v = .agg #[v1,v2,v3,v4]
   | 13=>v=vb
   | 14=>v = .slice (some ⟨bt,ot,none⟩) T.length tc
   | 15=>v = .int .i64 j
   | 16=>v = .pointer (some ⟨bt,ot + j,none⟩)
   | 17=>v = .int .i64 tk
   | 18=>∃ (ca:Option Addr) (cn cc:Nat),v = .slice ca cn cc∧z.ownsRow W3.heap.size 45 2 (.slice ca cn cc) (C tk).length (ppCs (C tk))
   | 19=>∃ (sa:Option Addr) (sn sc:Nat) (ca:Option Addr) (cn cc:Nat),v = .agg #[.int .i64 tk,.slice sa sn sc,.slice ca cn cc]∧z.ownsRow W3.heap.size 45 2 (.slice sa sn sc) (F tk).length (ppCs (F tk))∧z.ownsRow W3.heap.size 45 2 (.slice ca cn cc) (C tk).length (ppCs (C tk))
   | 20=>∃ (bb:Nat) (sa:Option Addr) (sn sc:Nat) (ca:Option Addr) (cn cc:Nat),v = .slice (some ⟨bb,0,none⟩) 1 1∧z.ownsRow W3.heap.size 45 2 (.slice sa sn sc) (F tk).length (ppCs (F tk))∧z.ownsRow W3.heap.size 45 2 (.slice ca cn cc) (C tk).length (ppCs (C tk))∧u10.ownBlock≠some bb∧z.cell? ⟨bb,0,none⟩=some (.int .i64 tk)∧z.cell? ⟨bb,1,none⟩=some (.slice sa sn sc)∧z.cell? ⟨bb,2,none⟩=some (.slice ca cn cc)
   | 21=>∃ (gg cap:Nat) (s c:Value),v = .slice (some ⟨gg,0,none⟩) (MM.length + 1) cap∧MoI W3.heap.size F C (MM ++ [(tk,s,c)]) (.slice (some ⟨gg,0,none⟩) (MM.length + 1) cap) z∧Below W3.heap.size W3 z
   | 22=>True
   | _=>True) (JD 22 10 u10 (JA 21 22 wr (fun xX z=>∃ (gg cap:Nat) (s c:Value),xX 10 = .slice (some ⟨gg,0,none⟩) (MM.length + 1) cap∧MoI W3.heap.size F C (MM ++ [(tk,s,c)]) (.slice (some ⟨gg,0,none⟩) (MM.length + 1) cap) z∧Below W3.heap.size W3 z))) (fun n=>(#[.agg #[v1,v2,v3,v4],va,vb,.pointer (some ⟨w.heap.size,0,none⟩),undef,undef,.slice none 0 0,.int .i64 0,.int .i64 0,.slice (some ⟨bt,ot,none⟩) T.length tc,u10,.int .i64 (j:Int),.agg #[v1,v2,v3,v4],va,.int .i64 0,.int .i64 0,.bool true,.agg #[v1,v2,v3,v4],vb,.int .i64 0,.int .i64 0,.bool false,undef,.slice (some ⟨W2.heap.size,0,none⟩) 0 0,va,V1,vb,V2,.slice (some ⟨bt,ot,none⟩) T.length tc,.int .i64 (j:Int),.slice (some ⟨bt,ot,none⟩) T.length tc,.int .i64 (T.length:Int),.bool true,u33,u34,u35,u36,u37,u38,u39,u40,u41,u42,u43,u44,u45,u46,u47,u48,u49,u50,u51,u52,u53,u54,u55,u56,undef,undef,undef,undef,undef]:Array Value).getD n undef) rfl hmxx (by kernel_rfl) (by kernel_rfl) (jd_start (ja_start (of_decide_eq_true (by kernel_rfl))) rfl) (jd_cong (of_decide_eq_true (by kernel_rfl)) (fun ℓ ℓ' xX w h hj=>ja_cong (of_decide_eq_true (by kernel_rfl)) (of_decide_eq_true (by kernel_rfl)) ℓ ℓ' xX w h hj)) ?put ?step ?done)
  case put =>
   intro iI oO dD ho hd xX vV
   match iI,ho with
   | 0,ho=>obtain rfl:=Option.some.inj (show some _=some oO from ho); obtain rfl:=Option.some.inj (show some _=some dD from hd); rfl
   | 1,ho=>obtain rfl:=Option.some.inj (show some _=some oO from ho); obtain rfl:=Option.some.inj (show some _=some dD from hd); rfl
   | 2,ho=>obtain rfl:=Option.some.inj (show some _=some oO from ho); obtain rfl:=Option.some.inj (show some _=some dD from hd); rfl
   | 3,ho=>obtain rfl:=Option.some.inj (show some _=some oO from ho); obtain rfl:=Option.some.inj (show some _=some dD from hd); rfl
   | 4,ho=>obtain rfl:=Option.some.inj (show some _=some oO from ho); obtain rfl:=Option.some.inj (show some _=some dD from hd); rfl
   | 5,ho=>obtain rfl:=Option.some.inj (show some _=some oO from ho); obtain rfl:=Option.some.inj (show some _=some dD from hd); rfl
   | 6,ho=>obtain rfl:=Option.some.inj (show some _=some oO from ho); obtain rfl:=Option.some.inj (show some _=some dD from hd); rfl
   | 7,ho=>obtain rfl:=Option.some.inj (show some _=some oO from ho); obtain rfl:=Option.some.inj (show some _=some dD from hd); rfl
   | 8,ho=>obtain rfl:=Option.some.inj (show some _=some oO from ho); obtain rfl:=Option.some.inj (show some _=some dD from hd); rfl
   | 9,ho=>obtain rfl:=Option.some.inj (show some _=some oO from ho); obtain rfl:=Option.some.inj (show some _=some dD from hd); rfl
   | 10,ho=>obtain rfl:=Option.some.inj (show some _=some oO from ho); obtain rfl:=Option.some.inj (show some _=some dD from hd); rfl
   | 11,ho=>obtain rfl:=Option.some.inj (show some _=some oO from ho); obtain rfl:=Option.some.inj (show some _=some dD from hd); rfl
   | 12,ho=>obtain rfl:=Option.some.inj (show some _=some oO from ho); obtain rfl:=Option.some.inj (show some _=some dD from hd); rfl
   | 13,ho=>obtain rfl:=Option.some.inj (show some _=some oO from ho); obtain rfl:=Option.some.inj (show some _=some dD from hd); rfl
   | 14,ho=>obtain rfl:=Option.some.inj (show some _=some oO from ho); obtain rfl:=Option.some.inj (show some _=some dD from hd); rfl
   | 15,ho=>obtain rfl:=Option.some.inj (show some _=some oO from ho); obtain rfl:=Option.some.inj (show some _=some dD from hd); rfl
   | 16,ho=>obtain rfl:=Option.some.inj (show some _=some oO from ho); obtain rfl:=Option.some.inj (show some _=some dD from hd); rfl
   | 17,ho=>obtain rfl:=Option.some.inj (show some _=some oO from ho); obtain rfl:=Option.some.inj (show some _=some dD from hd); rfl
   | 18,ho=>obtain rfl:=Option.some.inj (show some _=some oO from ho); obtain rfl:=Option.some.inj (show some _=some dD from hd); rfl
   | 19,ho=>obtain rfl:=Option.some.inj (show some _=some oO from ho); obtain rfl:=Option.some.inj (show some _=some dD from hd); rfl
   | 20,ho=>obtain rfl:=Option.some.inj (show some _=some oO from ho); obtain rfl:=Option.some.inj (show some _=some dD from hd); rfl
   | 21,ho=>obtain rfl:=Option.some.inj (show some _=some oO from ho); obtain rfl:=Option.some.inj (show some _=some dD from hd); rfl
   | 22,ho=>obtain rfl:=Option.some.inj (show some _=some oO from ho); obtain rfl:=Option.some.inj (show some _=some dD from hd); rfl
   | n + 23,ho=>exact absurd (Array.getElem?_eq_some_iff.1 ho).1 (by simp)
  case step =>
   intro iI oO ho ℓ xX z hj hli hup hdl hdep K hK
   match iI,ho with
   | 0,ho =>
    obtain rfl:=Option.some.inj (show some _=some oO from ho)
    have hls:ℓ 22=false:=hup 12 22 (by kernel_rfl)
    have hPl:=fun (vv:Value) w' (hb:Below z.heap.size z w')=>jd_plain (i:=0) hj (ja_plain (i:=0) (x':=putX xX (some 35) vv) hj.1 (by decide) (by decide) hls hb) (by decide) rfl
    have q10:xX 10=u10:=hj.2 hls
    clear hdep ho hup
    dsimp only at hK ⊢
    simp only [q10] at hK ⊢
    refine wpOp_step rfl (fun K2 hK2=>?_)
    go_simp
    exact hK2 _ _ (hK _ _ (hPl _ _ (Below.refl _ _)) (fun _ _ _ _ h=>h) rfl)
   | 1,ho =>
    obtain rfl:=Option.some.inj (show some _=some oO from ho)
    have hls:ℓ 22=false:=hup 12 22 (by kernel_rfl)
    have hPl:=fun (vv:Value) w' (hb:Below z.heap.size z w')=>jd_plain (i:=1) hj (ja_plain (i:=1) (x':=putX xX (some 36) vv) hj.1 (by decide) (by decide) hls hb) (by decide) rfl
    clear hdep ho hup
    dsimp only at hK ⊢
    refine wpOp_step rfl (fun K2 hK2=>?_)
    go_simp
    exact hK2 _ _ (hK _ _ (hPl _ _ (Below.refl _ _)) (fun _ _ _ _ h=>h) rfl)
   | 2,ho =>
    obtain rfl:=Option.some.inj (show some _=some oO from ho)
    have hls:ℓ 22=false:=hup 12 22 (by kernel_rfl)
    have hPl:=fun (vv:Value) w' (hb:Below z.heap.size z w')=>jd_plain (i:=2) hj (ja_plain (i:=2) (x':=putX xX (some 37) vv) hj.1 (by decide) (by decide) hls hb) (by decide) rfl
    clear hdep ho hup
    dsimp only at hK ⊢
    refine wpOp_step rfl (fun K2 hK2=>?_)
    go_simp
    exact hK2 _ _ (hK _ _ (hPl _ _ (Below.refl _ _)) (fun _ _ _ _ h=>h) rfl)
   | 3,ho =>
    obtain rfl:=Option.some.inj (show some _=some oO from ho)
    have q1:xX 36 = .slice (some ⟨bt,ot,none⟩) T.length tc:=hdep 1 (by kernel_rfl) _ _ rfl rfl
    have q2:xX 37 = .int .i64 j:=hdep 2 (by kernel_rfl) _ _ rfl rfl
    have hls:ℓ 22=false:=hup 12 22 (by kernel_rfl)
    have hPl:=fun (vv:Value) w' (hb:Below z.heap.size z w')=>jd_plain (i:=3) hj (ja_plain (i:=3) (x':=putX xX (some 38) vv) hj.1 (by decide) (by decide) hls hb) (by decide) rfl
    clear hdep ho hup
    dsimp only at hK ⊢
    simp only [q1,q2] at hK ⊢
    refine wpOp_step rfl (fun K2 hK2=>?_)
    go_simp
    exact hK2 _ _ (hK _ _ (hPl _ _ (Below.refl _ _)) (fun _ _ _ _ h=>h) rfl)
   | 4,ho =>
    obtain rfl:=Option.some.inj (show some _=some oO from ho)
    have q3:xX 38 = .pointer (some ⟨bt,ot + j,none⟩):=hdep 3 (by kernel_rfl) _ _ rfl rfl
    have hls:ℓ 22=false:=hup 12 22 (by kernel_rfl)
    have hPl:=fun (vv:Value) w' (hb:Below z.heap.size z w')=>jd_plain (i:=4) hj (ja_plain (i:=4) (x':=putX xX (some 39) vv) hj.1 (by decide) (by decide) hls hb) (by decide) rfl
    have hz:=hj.1.1 (hup 12 21 (by kernel_rfl))
    have y1:z.cell? ⟨bt,ot + j,none⟩=some (.int .i64 tk):=((below_step hJ.out hz).cell hbt).trans HQ0.out
    clear hdep ho hup
    dsimp only at hK ⊢
    simp only [q3] at hK ⊢
    refine wpOp_step rfl (fun K2 hK2=>?_)
    go_simp
    exact hK2 _ _ (hK _ _ (hPl _ _ (Below.refl _ _)) (fun _ _ _ _ h=>h) rfl)
   | 5,ho =>
    obtain rfl:=Option.some.inj (show some _=some oO from ho)
    have hls:ℓ 22=false:=hup 12 22 (by kernel_rfl)
    have hPl:=fun (vv:Value) w' (hb:Below z.heap.size z w')=>jd_plain (i:=5) hj (ja_plain (i:=5) (x':=putX xX (some 40) vv) hj.1 (by decide) (by decide) hls hb) (by decide) rfl
    have hz:=hj.1.1 (hup 12 21 (by kernel_rfl))
    obtain ⟨s0,s1,s2,s3⟩:=(HB3.out.below (below_step hJ.out hz)).four
    clear hdep ho hup
    dsimp only at hK ⊢
    refine wpOp_step rfl (fun K2 hK2=>?_)
    go_simp
    exact hK2 _ _ (hK _ _ (hPl _ _ (Below.refl _ _)) (fun _ _ _ _ h=>h) rfl)
   | 6,ho =>
    obtain rfl:=Option.some.inj (show some _=some oO from ho)
    have hls:ℓ 22=false:=hup 12 22 (by kernel_rfl)
    have hPl:=fun (vv:Value) w' (hb:Below z.heap.size z w')=>jd_plain (i:=6) hj (ja_plain (i:=6) (x':=putX xX (some 41) vv) hj.1 (by decide) (by decide) hls hb) (by decide) rfl
    clear hdep ho hup
    dsimp only at hK ⊢
    refine wpOp_step rfl (fun K2 hK2=>?_)
    go_simp
    exact hK2 _ _ (hK _ _ (hPl _ _ (Below.refl _ _)) (fun _ _ _ _ h=>h) rfl)
   | 7,ho =>
    obtain rfl:=Option.some.inj (show some _=some oO from ho)
    have hls:ℓ 22=false:=hup 12 22 (by kernel_rfl)
    have hPl:=fun (vv:Value) w' (hb:Below z.heap.size z w')=>jd_plain (i:=7) hj (ja_plain (i:=7) (x':=putX xX (some 42) vv) hj.1 (by decide) (by decide) hls hb) (by decide) rfl
    clear hdep ho hup
    dsimp only at hK ⊢
    refine wpOp_step rfl (fun K2 hK2=>?_)
    go_simp
    exact hK2 _ _ (hK _ _ (hPl _ _ (Below.refl _ _)) (fun _ _ _ _ h=>h) rfl)
   | 8,ho =>
    obtain rfl:=Option.some.inj (show some _=some oO from ho)
    have hls:ℓ 22=false:=hup 12 22 (by kernel_rfl)
    have hPl:=fun (vv:Value) w' (hb:Below z.heap.size z w')=>jd_plain (i:=8) hj (ja_plain (i:=8) (x':=putX xX (some 43) vv) hj.1 (by decide) (by decide) hls hb) (by decide) rfl
    clear hdep ho hup
    dsimp only at hK ⊢
    refine wpOp_step rfl (fun K2 hK2=>?_)
    go_simp
    exact hK2 _ _ (hK _ _ (hPl _ _ (Below.refl _ _)) (fun _ _ _ _ h=>h) rfl)
   | 9,ho =>
    obtain rfl:=Option.some.inj (show some _=some oO from ho)
    have q7:xX 42 = .slice (some ⟨bt,ot,none⟩) T.length tc:=hdep 7 (by kernel_rfl) _ _ rfl rfl
    have q8:xX 43 = .int .i64 j:=hdep 8 (by kernel_rfl) _ _ rfl rfl
    have hls:ℓ 22=false:=hup 12 22 (by kernel_rfl)
    have hPl:=fun (vv:Value) w' (hb:Below z.heap.size z w')=>jd_plain (i:=9) hj (ja_plain (i:=9) (x':=putX xX (some 44) vv) hj.1 (by decide) (by decide) hls hb) (by decide) rfl
    clear hdep ho hup
    dsimp only at hK ⊢
    simp only [q7,q8] at hK ⊢
    refine wpOp_step rfl (fun K2 hK2=>?_)
    go_simp
    exact hK2 _ _ (hK _ _ (hPl _ _ (Below.refl _ _)) (fun _ _ _ _ h=>h) rfl)
   | 10,ho =>
    obtain rfl:=Option.some.inj (show some _=some oO from ho)
    have q9:xX 44 = .pointer (some ⟨bt,ot + j,none⟩):=hdep 9 (by kernel_rfl) _ _ rfl rfl
    have hls:ℓ 22=false:=hup 12 22 (by kernel_rfl)
    have hPl:=fun (vv:Value) w' (hb:Below z.heap.size z w')=>jd_plain (i:=10) hj (ja_plain (i:=10) (x':=putX xX (some 45) vv) hj.1 (by decide) (by decide) hls hb) (by decide) rfl
    have hz:=hj.1.1 (hup 12 21 (by kernel_rfl))
    have y1:z.cell? ⟨bt,ot + j,none⟩=some (.int .i64 tk):=((below_step hJ.out hz).cell hbt).trans HQ0.out
    clear hdep ho hup
    dsimp only at hK ⊢
    simp only [q9] at hK ⊢
    refine wpOp_step rfl (fun K2 hK2=>?_)
    go_simp
    exact hK2 _ _ (hK _ _ (hPl _ _ (Below.refl _ _)) (fun _ _ _ _ h=>h) rfl)
   | 11,ho =>
    obtain rfl:=Option.some.inj (show some _=some oO from ho)
    have q5:xX 40 = .agg #[v1,v2,v3,v4]:=hdep 5 (by kernel_rfl) _ _ rfl rfl
    have q6:xX 41=va:=hdep 6 (by kernel_rfl) _ _ rfl rfl
    have q10:xX 45 = .int .i64 tk:=hdep 10 (by kernel_rfl) _ _ rfl rfl
    have hls:ℓ 22=false:=hup 12 22 (by kernel_rfl)
    have hPl:=fun (vv:Value) w' (hb:Below z.heap.size z w')=>jd_plain (i:=11) hj (ja_plain (i:=11) (x':=putX xX (some 46) vv) hj.1 (by decide) (by decide) hls hb) (by decide) rfl
    have hz:=hj.1.1 (hup 12 21 (by kernel_rfl))
    clear hdep ho hup
    dsimp only at hK ⊢
    simp only [q5,q6,q10] at hK ⊢
    refine wpOp_step rfl (fun K2 hK2=>?_)
    go_simp
    refine (HSO3.out tk z (below_step (below_step HBW.out hJ.out) hz)).mono ?_
    rintro e z1 ⟨uu,rfl,hrow,hb⟩
    obtain ⟨a9,n9,c9,rfl⟩:=row_form hrow
    refine hK2 _ _ (hK _ _ (hPl _ _ hb) ?_ ⟨a9,n9,c9,rfl,row_base hrow (Nat.le_trans hJ.out.size hz.size)⟩)
    intro jj v' hlj _ h
    match jj,h with
    | 0,h=>exact h
    | 1,h=>exact h
    | 2,h=>exact h
    | 3,h=>exact h
    | 4,h=>exact h
    | 5,h=>exact h
    | 6,h=>exact h
    | 7,h=>exact h
    | 8,h=>exact h
    | 9,h=>exact h
    | 10,h=>exact h
    | 11,h=>obtain ⟨a,n,c,e,r⟩:=h; exact ⟨a,n,c,e,row_later r hb⟩
    | 12,h=>exact h
    | 13,h=>exact h
    | 14,h=>exact h
    | 15,h=>exact h
    | 16,h=>exact h
    | 17,h=>exact h
    | 18,h=>obtain ⟨a,n,c,e,r⟩:=h; exact ⟨a,n,c,e,row_later r hb⟩
    | 19,h=>obtain ⟨a,n,c,a2,n2,c2,e,r,r2⟩:=h; exact ⟨a,n,c,a2,n2,c2,e,row_later r hb,row_later r2 hb⟩
    | 20,h=>obtain ⟨bb,a,n,c,a2,n2,c2,e,r,r2,ne,x0,x1,x2⟩:=h; exact ⟨bb,a,n,c,a2,n2,c2,e,row_later r hb,row_later r2 hb,ne,(hb.cell (cell_size x0)).trans x0,(hb.cell (cell_size x1)).trans x1,(hb.cell (cell_size x2)).trans x2⟩
    | 21,h=>obtain ⟨gg,cap,s,c,e,m,bl⟩:=h; exact ⟨gg,cap,s,c,e,m.later hb,below_step bl hb⟩
    | 22,h=>exact h
    | _ + 23,_=>trivial
   | 12,ho =>
    obtain rfl:=Option.some.inj (show some _=some oO from ho)
    have hls:ℓ 22=false:=hup 12 22 (by kernel_rfl)
    have hPl:=fun (vv:Value) w' (hb:Below z.heap.size z w')=>jd_plain (i:=12) hj (ja_plain (i:=12) (x':=putX xX (some 47) vv) hj.1 (by decide) (by decide) hls hb) (by decide) rfl
    have hz:=hj.1.1 (hup 12 21 (by kernel_rfl))
    obtain ⟨s0,s1,s2,s3⟩:=(HB3.out.below (below_step hJ.out hz)).four
    clear hdep ho hup
    dsimp only at hK ⊢
    refine wpOp_step rfl (fun K2 hK2=>?_)
    go_simp
    exact hK2 _ _ (hK _ _ (hPl _ _ (Below.refl _ _)) (fun _ _ _ _ h=>h) rfl)
   | 13,ho =>
    obtain rfl:=Option.some.inj (show some _=some oO from ho)
    have hls:ℓ 22=false:=hup 12 22 (by kernel_rfl)
    have hPl:=fun (vv:Value) w' (hb:Below z.heap.size z w')=>jd_plain (i:=13) hj (ja_plain (i:=13) (x':=putX xX (some 48) vv) hj.1 (by decide) (by decide) hls hb) (by decide) rfl
    clear hdep ho hup
    dsimp only at hK ⊢
    refine wpOp_step rfl (fun K2 hK2=>?_)
    go_simp
    exact hK2 _ _ (hK _ _ (hPl _ _ (Below.refl _ _)) (fun _ _ _ _ h=>h) rfl)
   | 14,ho =>
    obtain rfl:=Option.some.inj (show some _=some oO from ho)
    have hls:ℓ 22=false:=hup 12 22 (by kernel_rfl)
    have hPl:=fun (vv:Value) w' (hb:Below z.heap.size z w')=>jd_plain (i:=14) hj (ja_plain (i:=14) (x':=putX xX (some 49) vv) hj.1 (by decide) (by decide) hls hb) (by decide) rfl
    clear hdep ho hup
    dsimp only at hK ⊢
    refine wpOp_step rfl (fun K2 hK2=>?_)
    go_simp
    exact hK2 _ _ (hK _ _ (hPl _ _ (Below.refl _ _)) (fun _ _ _ _ h=>h) rfl)
   | 15,ho =>
    obtain rfl:=Option.some.inj (show some _=some oO from ho)
    have hls:ℓ 22=false:=hup 12 22 (by kernel_rfl)
    have hPl:=fun (vv:Value) w' (hb:Below z.heap.size z w')=>jd_plain (i:=15) hj (ja_plain (i:=15) (x':=putX xX (some 50) vv) hj.1 (by decide) (by decide) hls hb) (by decide) rfl
    clear hdep ho hup
    dsimp only at hK ⊢
    refine wpOp_step rfl (fun K2 hK2=>?_)
    go_simp
    exact hK2 _ _ (hK _ _ (hPl _ _ (Below.refl _ _)) (fun _ _ _ _ h=>h) rfl)
   | 16,ho =>
    obtain rfl:=Option.some.inj (show some _=some oO from ho)
    have q14:xX 49 = .slice (some ⟨bt,ot,none⟩) T.length tc:=hdep 14 (by kernel_rfl) _ _ rfl rfl
    have q15:xX 50 = .int .i64 j:=hdep 15 (by kernel_rfl) _ _ rfl rfl
    have hls:ℓ 22=false:=hup 12 22 (by kernel_rfl)
    have hPl:=fun (vv:Value) w' (hb:Below z.heap.size z w')=>jd_plain (i:=16) hj (ja_plain (i:=16) (x':=putX xX (some 51) vv) hj.1 (by decide) (by decide) hls hb) (by decide) rfl
    clear hdep ho hup
    dsimp only at hK ⊢
    simp only [q14,q15] at hK ⊢
    refine wpOp_step rfl (fun K2 hK2=>?_)
    go_simp
    exact hK2 _ _ (hK _ _ (hPl _ _ (Below.refl _ _)) (fun _ _ _ _ h=>h) rfl)
   | 17,ho =>
    obtain rfl:=Option.some.inj (show some _=some oO from ho)
    have q16:xX 51 = .pointer (some ⟨bt,ot + j,none⟩):=hdep 16 (by kernel_rfl) _ _ rfl rfl
    have hls:ℓ 22=false:=hup 12 22 (by kernel_rfl)
    have hPl:=fun (vv:Value) w' (hb:Below z.heap.size z w')=>jd_plain (i:=17) hj (ja_plain (i:=17) (x':=putX xX (some 52) vv) hj.1 (by decide) (by decide) hls hb) (by decide) rfl
    have hz:=hj.1.1 (hup 12 21 (by kernel_rfl))
    have y1:z.cell? ⟨bt,ot + j,none⟩=some (.int .i64 tk):=((below_step hJ.out hz).cell hbt).trans HQ0.out
    clear hdep ho hup
    dsimp only at hK ⊢
    simp only [q16] at hK ⊢
    refine wpOp_step rfl (fun K2 hK2=>?_)
    go_simp
    exact hK2 _ _ (hK _ _ (hPl _ _ (Below.refl _ _)) (fun _ _ _ _ h=>h) rfl)
   | 18,ho =>
    obtain rfl:=Option.some.inj (show some _=some oO from ho)
    have q12:xX 47 = .agg #[v1,v2,v3,v4]:=hdep 12 (by kernel_rfl) _ _ rfl rfl
    have q13:xX 48=vb:=hdep 13 (by kernel_rfl) _ _ rfl rfl
    have q17:xX 52 = .int .i64 tk:=hdep 17 (by kernel_rfl) _ _ rfl rfl
    have hls:ℓ 22=false:=hup 12 22 (by kernel_rfl)
    have hPl:=fun (vv:Value) w' (hb:Below z.heap.size z w')=>jd_plain (i:=18) hj (ja_plain (i:=18) (x':=putX xX (some 53) vv) hj.1 (by decide) (by decide) hls hb) (by decide) rfl
    have hz:=hj.1.1 (hup 12 21 (by kernel_rfl))
    clear hdep ho hup
    dsimp only at hK ⊢
    simp only [q12,q13,q17] at hK ⊢
    refine wpOp_step rfl (fun K2 hK2=>?_)
    go_simp
    refine (HSD3.out tk z (below_step (below_step HBW.out hJ.out) hz)).mono ?_
    rintro e z1 ⟨uu,rfl,hrow,hb⟩
    obtain ⟨a9,n9,c9,rfl⟩:=row_form hrow
    refine hK2 _ _ (hK _ _ (hPl _ _ hb) ?_ ⟨a9,n9,c9,rfl,row_base hrow (Nat.le_trans hJ.out.size hz.size)⟩)
    intro jj v' hlj _ h
    match jj,h with
    | 0,h=>exact h
    | 1,h=>exact h
    | 2,h=>exact h
    | 3,h=>exact h
    | 4,h=>exact h
    | 5,h=>exact h
    | 6,h=>exact h
    | 7,h=>exact h
    | 8,h=>exact h
    | 9,h=>exact h
    | 10,h=>exact h
    | 11,h=>obtain ⟨a,n,c,e,r⟩:=h; exact ⟨a,n,c,e,row_later r hb⟩
    | 12,h=>exact h
    | 13,h=>exact h
    | 14,h=>exact h
    | 15,h=>exact h
    | 16,h=>exact h
    | 17,h=>exact h
    | 18,h=>obtain ⟨a,n,c,e,r⟩:=h; exact ⟨a,n,c,e,row_later r hb⟩
    | 19,h=>obtain ⟨a,n,c,a2,n2,c2,e,r,r2⟩:=h; exact ⟨a,n,c,a2,n2,c2,e,row_later r hb,row_later r2 hb⟩
    | 20,h=>obtain ⟨bb,a,n,c,a2,n2,c2,e,r,r2,ne,x0,x1,x2⟩:=h; exact ⟨bb,a,n,c,a2,n2,c2,e,row_later r hb,row_later r2 hb,ne,(hb.cell (cell_size x0)).trans x0,(hb.cell (cell_size x1)).trans x1,(hb.cell (cell_size x2)).trans x2⟩
    | 21,h=>obtain ⟨gg,cap,s,c,e,m,bl⟩:=h; exact ⟨gg,cap,s,c,e,m.later hb,below_step bl hb⟩
    | 22,h=>exact h
    | _ + 23,_=>trivial
   | 19,ho =>
    obtain rfl:=Option.some.inj (show some _=some oO from ho)
    have q4:xX 39 = .int .i64 tk:=hdep 4 (by kernel_rfl) _ _ rfl rfl
    have h11:∃ (sa:Option Addr) (sn sc:Nat),xX 46 = .slice sa sn sc∧z.ownsRow W3.heap.size 45 2 (.slice sa sn sc) (F tk).length (ppCs (F tk)):=hdep 11 (by kernel_rfl) _ _ rfl rfl
    obtain ⟨sa,sn,sc,q11,r11⟩:=h11
    have h18:∃ (ca:Option Addr) (cn cc:Nat),xX 53 = .slice ca cn cc∧z.ownsRow W3.heap.size 45 2 (.slice ca cn cc) (C tk).length (ppCs (C tk)):=hdep 18 (by kernel_rfl) _ _ rfl rfl
    obtain ⟨ca,cn,cc,q18,r18⟩:=h18
    have hls:ℓ 22=false:=hup 12 22 (by kernel_rfl)
    have hPl:=fun (vv:Value) w' (hb:Below z.heap.size z w')=>jd_plain (i:=19) hj (ja_plain (i:=19) (x':=putX xX (some 54) vv) hj.1 (by decide) (by decide) hls hb) (by decide) rfl
    clear hdep ho hup
    dsimp only at hK ⊢
    simp only [q4,q11,q18] at hK ⊢
    refine wpOp_step rfl (fun K2 hK2=>?_)
    go_simp
    exact hK2 _ _ (hK _ _ (hPl _ _ (Below.refl _ _)) (fun _ _ _ _ h=>h) ⟨sa,sn,sc,ca,cn,cc,rfl,r11,r18⟩)
   | 20,ho =>
    obtain rfl:=Option.some.inj (show some _=some oO from ho)
    have h19:∃ (sa:Option Addr) (sn sc:Nat) (ca:Option Addr) (cn cc:Nat),xX 54 = .agg #[.int .i64 tk,.slice sa sn sc,.slice ca cn cc]∧z.ownsRow W3.heap.size 45 2 (.slice sa sn sc) (F tk).length (ppCs (F tk))∧z.ownsRow W3.heap.size 45 2 (.slice ca cn cc) (C tk).length (ppCs (C tk)):=hdep 19 (by kernel_rfl) _ _ rfl rfl
    obtain ⟨sa,sn,sc,ca,cn,cc,q19,r19,t19⟩:=h19
    have hls:ℓ 22=false:=hup 12 22 (by kernel_rfl)
    have hPl:=fun (vv:Value) w' (hb:Below z.heap.size z w')=>jd_plain (i:=20) hj (ja_plain (i:=20) (x':=putX xX (some 55) vv) hj.1 (by decide) (by decide) hls hb) (by decide) rfl
    have hz:=hj.1.1 (hup 12 21 (by kernel_rfl))
    clear hdep ho hup
    dsimp only at hK ⊢
    simp only [q19] at hK ⊢
    refine wpOp_step rfl (fun K2 hK2=>?_)
    go_simp
    have hb:Below z.heap.size z (z.alloc (.cells #[.int .i64 tk,.slice sa sn sc,.slice ca cn cc] 97)):=(Below.refl _ _).alloc (Nat.le_refl _) _
    have hk:=Blk.new z 97 #[.int .i64 tk,.slice sa sn sc,.slice ca cn cc]
    refine hK2 _ _ (hK _ _ (hPl _ _ hb) ?_ ⟨z.heap.size,sa,sn,sc,ca,cn,cc,rfl,row_later r19 hb,row_later t19 hb,fun e=>Nat.lt_irrefl _ ((hM.out.later hz).row.lt _ e).2,hk.cell 0,hk.cell 1,hk.cell 2⟩)
    intro jj v' hlj _ h
    match jj,h with
    | 0,h=>exact h
    | 1,h=>exact h
    | 2,h=>exact h
    | 3,h=>exact h
    | 4,h=>exact h
    | 5,h=>exact h
    | 6,h=>exact h
    | 7,h=>exact h
    | 8,h=>exact h
    | 9,h=>exact h
    | 10,h=>exact h
    | 11,h=>obtain ⟨a,n,c,e,r⟩:=h; exact ⟨a,n,c,e,row_later r hb⟩
    | 12,h=>exact h
    | 13,h=>exact h
    | 14,h=>exact h
    | 15,h=>exact h
    | 16,h=>exact h
    | 17,h=>exact h
    | 18,h=>obtain ⟨a,n,c,e,r⟩:=h; exact ⟨a,n,c,e,row_later r hb⟩
    | 19,h=>obtain ⟨a,n,c,a2,n2,c2,e,r,r2⟩:=h; exact ⟨a,n,c,a2,n2,c2,e,row_later r hb,row_later r2 hb⟩
    | 20,h=>obtain ⟨bb,a,n,c,a2,n2,c2,e,r,r2,ne,x0,x1,x2⟩:=h; exact ⟨bb,a,n,c,a2,n2,c2,e,row_later r hb,row_later r2 hb,ne,(hb.cell (cell_size x0)).trans x0,(hb.cell (cell_size x1)).trans x1,(hb.cell (cell_size x2)).trans x2⟩
    | 21,h=>obtain ⟨gg,cap,s,c,e,m,bl⟩:=h; exact ⟨gg,cap,s,c,e,m.later hb,below_step bl hb⟩
    | 22,h=>exact h
    | _ + 23,_=>trivial
   | 21,ho =>
    obtain rfl:=Option.some.inj (show some _=some oO from ho)
    have q0:xX 35=u10:=hdep 0 (by kernel_rfl) _ _ rfl rfl
    have h20:∃ (bb:Nat) (sa:Option Addr) (sn sc:Nat) (ca:Option Addr) (cn cc:Nat),xX 55 = .slice (some ⟨bb,0,none⟩) 1 1∧z.ownsRow W3.heap.size 45 2 (.slice sa sn sc) (F tk).length (ppCs (F tk))∧z.ownsRow W3.heap.size 45 2 (.slice ca cn cc) (C tk).length (ppCs (C tk))∧u10.ownBlock≠some bb∧z.cell? ⟨bb,0,none⟩=some (.int .i64 tk)∧z.cell? ⟨bb,1,none⟩=some (.slice sa sn sc)∧z.cell? ⟨bb,2,none⟩=some (.slice ca cn cc):=hdep 20 (by kernel_rfl) _ _ rfl rfl
    obtain ⟨bb,sa,sn,sc,ca,cn,cc,q20,r20,t20,ne20,c20,d20,e20⟩:=h20
    have hz:=hj.1.1 hli
    have hls:ℓ 22=false:=hup 12 22 (by kernel_rfl)
    clear hdep ho hup
    dsimp only at hK ⊢
    simp only [q0,q20] at hK ⊢
    refine wpOp_step rfl (fun K2 hK2=>?_)
    refine step_append_lies _ rfl _ _ 94 rfl W3.heap.size 97 i0 _ 3 56 Tryz.underlying94 hi0 hz0 hz1 hz2 rfl (by omega) _ _ _ rfl (hM.out.later hz).row ⟨bb,0,none⟩ 1 1 [.int .i64 tk,.slice sa sn sc,.slice ca cn cc] rfl rfl (fun jj u hu=>match jj,hu with | 0,hu=>by cases hu; exact c20 | 1,hu=>by cases hu; exact d20 | 2,hu=>by cases hu; exact e20 | _ + 3,hu=>by cases hu) (by simp [Value.oneCell']) (by omega) (by unfold maxLen; omega) (by omega) (Nat.le_trans hJ.out.size hz.size) z.heap.size rfl ?_
    intro gg cap w3 hown hgrow hat hlt
    refine hK2 _ _ (hK _ _ (jd_plain (i:=21) hj (ja_mid (by decide) hls) (by decide) rfl) ?_ ⟨gg,cap,_,_,rfl,(hM.out.later hz).next r20 t20 hgrow rfl hown,(below_step hJ.out hz).grown hgrow (Nat.le_trans hJ.out.size hz.size) (fun _ e=>row_ge (hM.out.later hz).row e)⟩)
    intro jj v' hlj _ h
    match jj,h with
    | 0,h=>exact h
    | 1,h=>exact h
    | 2,h=>exact h
    | 3,h=>exact h
    | 4,h=>exact h
    | 5,h=>exact h
    | 6,h=>exact h
    | 7,h=>exact h
    | 8,h=>exact h
    | 9,h=>exact h
    | 10,h=>exact h
    | 11,h=>obtain ⟨a,n,c,e,r⟩:=h; exact ⟨a,n,c,e,r.kept hgrow (row_apart r (hM.out.later hz).row (by decide))⟩
    | 12,h=>exact h
    | 13,h=>exact h
    | 14,h=>exact h
    | 15,h=>exact h
    | 16,h=>exact h
    | 17,h=>exact h
    | 18,h=>obtain ⟨a,n,c,e,r⟩:=h; exact ⟨a,n,c,e,r.kept hgrow (row_apart r (hM.out.later hz).row (by decide))⟩
    | 19,h=>obtain ⟨a,n,c,a2,n2,c2,e,r,r2⟩:=h; exact ⟨a,n,c,a2,n2,c2,e,r.kept hgrow (row_apart r (hM.out.later hz).row (by decide)),r2.kept hgrow (row_apart r2 (hM.out.later hz).row (by decide))⟩
    | 20,h=>obtain ⟨bb,a,n,c,a2,n2,c2,e,r,r2,ne,x0,x1,x2⟩:=h; exact ⟨bb,a,n,c,a2,n2,c2,e,r.kept hgrow (row_apart r (hM.out.later hz).row (by decide)),r2.kept hgrow (row_apart r2 (hM.out.later hz).row (by decide)),ne,hgrow.cell x0 (fun q=>ne q.symm),hgrow.cell x1 (fun q=>ne q.symm),hgrow.cell x2 (fun q=>ne q.symm)⟩
    | 21,h=>rw [hli] at hlj; cases hlj
    | 22,h=>exact h
    | _ + 23,_=>trivial
   | 22,ho =>
    obtain rfl:=Option.some.inj (show some _=some oO from ho)
    have h21:∃ (gg cap:Nat) (s c:Value),xX 56 = .slice (some ⟨gg,0,none⟩) (MM.length + 1) cap∧MoI W3.heap.size F C (MM ++ [(tk,s,c)]) (.slice (some ⟨gg,0,none⟩) (MM.length + 1) cap) z∧Below W3.heap.size W3 z:=hdep 21 (by kernel_rfl) _ _ rfl rfl
    obtain ⟨gg,cap,s,c,q21,m20,b20⟩:=h21
    clear hdep ho hup
    dsimp only at hK ⊢
    simp only [q21] at hK ⊢
    refine wpOp_step rfl (fun K2 hK2=>?_)
    go_simp
    exact hK2 _ _ (hK _ _ (jd_last (ja_last (.inr (hdl 1 21 (by kernel_rfl))) ⟨gg,cap,s,c,rfl,m20,b20⟩)) (fun _ _ _ hp _=>absurd hp (lastB_spec (by kernel_rfl) hdl)) trivial)
   | n + 23,ho=>exact absurd (Array.getElem?_eq_some_iff.1 ho).1 (by simp)
  case done =>
   intro ℓ xX z hall hj
   have hf:=hj.1.2 (hall 22 (of_decide_eq_true (by kernel_rfl)))
   obtain ⟨gg,cap,s,c,qd,hm9,hb9⟩:=hf
   have HM9:=Lib.hid hm9
   have HB9:=Lib.hid hb9
   have HN9:=Lib.hid (HNX.out s c)
   dsimp only
   simp only [qd]
   clear hj qd hm9 hb9
   go_wp2
   go_roundw
   case rel=>exact ⟨j + 1,_,by omega,by go_num,HN9,HM9,HB9⟩
   case measure=>simp [intOf]; omega
 ·have hi3:¬ (j:Int) < (T.length:Int):=by omega
  have hje:j=T.length:=by omega
  rw [hje,List.take_length] at hN
  have hlm:MM.length≤1000:=by rw [← List.length_map (f:=(·.1)),hN.out]; exact hlT
  obtain ⟨s0,s1,s2,s3⟩:=(HB3.out.below hJ.out).four
  have HNT:=Lib.hid (hN.out.trans HTT.out.symm)
  clear hje hN
  go_wp2_with fail
  refine (HFA3.out MM _ _ _ (below_step HBW.out hJ.out) hM.out hlm HNT.out).mono ?_
  rintro e w5 ⟨vf,m,c,rfl,hrow,hfa,hb5⟩
  have HR5:=Lib.hid (row_base hrow (Nat.le_trans HBW.out.size hJ.out.size))
  have HF5:=Lib.hid hfa
  have HB5:=Lib.hid (below_step (below_step HBW.out hJ.out) hb5)
  clear hrow hfa hb5
  go_wp2
  go_ret2
  exact ⟨_,m,c,rfl,HR5.out,.inr ⟨HZ.out,HF5.out⟩,HB5.out⟩
end Go.Proofs.YthhfmppealmblaaGreatDoor
