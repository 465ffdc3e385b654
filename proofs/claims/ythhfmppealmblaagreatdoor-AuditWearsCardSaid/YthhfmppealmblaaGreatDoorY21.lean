/-
  A part of the proof: TX, TS, TYp, TY.
-/
import Derived.Test.YthhfmppealmblaaGreatDoorY19
import Derived.Test.YthhfmppealmblaaGreatDoorY03
import Derived.Deep.RegionHeld3
import Derived.Test.YthhfmppealmblaaGreatDoorY11
import Derived.Test.YthhfmppealmblaaGreatDoorY17
import Derived.Test.YthhfmppealmblaaGreatDoorQ07
namespace Go.Proofs.YthhfmppealmblaaGreatDoor
open Go.RowKit
def weC (x:We):List Value:=[.int .i64 x.1.1,.int .i64 x.1.2,.int .i64 x.2.1,.int .i64 x.2.2]
def weCs (l:List We):List Value:=(l.map weC).flatten
theorem we_info:(Tryz.prog.info? 64).map (fun i=>(i.zero,i.size,i.bytes))=some (some (.agg #[.int .i64 0,.int .i64 0,.int .i64 0,.int .i64 0]),4,32):=by kernel_rfl
theorem pps_info2:(Tryz.prog.info? 48).map (fun i=>(i.zero,i.size,i.bytes))=some (some (.slice none 0 0),1,24):=by kernel_rfl
theorem wes_step {W:World} {base:Nat} {t:TypeId} {v:Value} {l:List We} {n:Nat} {p:Pp} {a b:Int} (h:W.ownsRow base t 4 v n (weCs l++[.int .i64 p.1,.int .i64 p.2,.int .i64 a,.int .i64 b])) (hn:n=l.length+1):W.ownsRow base t 4 v (l++[(p,a,b)]).length (weCs (l++[(p,a,b)])):=by
  have e:weCs (l++[(p,a,b)])=weCs l++[.int .i64 p.1,.int .i64 p.2,.int .i64 a,.int .i64 b]:=by simp [weCs,weC]
  rw [e,List.length_append,List.length_singleton,← hn]
  exact h
def WrE (S:Sp) (B:(Th→Int)→Pp→Bool) (l:List Ev) (w:World) (e:Ending) (w':World):Prop:=∃ v,e = .returned (.tuple #[v,.int .i64 (audE S l)])∧w'.ownsRow w.heap.size 64 4 v (wearV S B l).length (weCs (wearV S B l))∧Below w.heap.size w w'
structure RpI (base:Nat) (T:List Int) (F:Int→List Pp) (g:Nat→Value) (i:Nat) (vk:Value) (A:World):Prop where
  ks:A.ownsRow base 48 1 vk i ((List.range i).map g)
  rs:∀ d,d<i→A.ownsRow base 45 2 (g d) (F (T.getD d 0)).length (ppCs (F (T.getD d 0)))
theorem RpI.start (base:Nat) (T:List Int) (F:Int→List Pp) (g:Nat→Value) (A:World):RpI base T F g 0 (.slice none 0 0) A:=⟨World.ownsRow_nil _ _ _ _,fun d hd=>absurd hd (Nat.not_lt_zero d)⟩
theorem RpI.later {base:Nat} {T:List Int} {F:Int→List Pp} {g:Nat→Value} {i:Nat} {vk:Value} {A A':World} (h:RpI base T F g i vk A) (hb:Below A.heap.size A A'):RpI base T F g i vk A':=⟨row_later h.ks hb,fun d hd=>row_later (h.rs d hd) hb⟩
theorem RpI.push {base:Nat} {T:List Int} {F:Int→List Pp} {g:Nat→Value} {i:Nat} {vk:Value} {A:World} (h:RpI base T F g i vk A) {v:Value} (hv:A.ownsRow base 45 2 v (F (T.getD i 0)).length (ppCs (F (T.getD i 0)))) {o:Obj} {A2:World} {vk':Value} (hg:(A.alloc o).grownBy A2 vk.ownBlock) (ho:A2.ownsRow base 48 1 vk' (i+1) ((List.range i).map g++[v])):RpI base T F (fun d=>if d=i then v else g d) (i+1) vk' A2:=by
  have h1:=h.later ((Below.refl _ A).alloc (Nat.le_refl _) o)
  have hv1:=row_later hv ((Below.refl _ A).alloc (Nat.le_refl _) o)
  refine ⟨?_,fun d hd=>?_⟩
  · have e:(List.range (i+1)).map (fun d=>if d=i then v else g d)=(List.range i).map g++[v]:=by
      rw [List.range_succ,List.map_append,List.map_cons,List.map_nil,if_pos rfl]
      congr 1
      refine List.map_congr_left fun d hd=>?_
      have:=List.mem_range.1 hd
      rw [if_neg (by omega)]
    rw [e]
    exact ho
  · by_cases e:d=i
    · subst e
      simp only [if_true]
      exact hv1.kept hg (row_apart hv1 h1.ks (by decide))
    · simp only [if_neg e]
      exact (h1.rs d (by omega)).kept hg (row_apart (h1.rs d (by omega)) h1.ks (by decide))
theorem RpI.at' {base:Nat} {T:List Int} {F:Int→List Pp} {g:Nat→Value} {i:Nat} {vk:Value} {A:World} (h:RpI base T F g i vk A) {d:Nat} (hd:d<i):∃ b o c,vk = .slice (some ⟨b,o,none⟩) i c∧A.cell? ⟨b,o+d,none⟩=some (g d):=by
  have e:∀ l:List Nat,(l.map fun d=>[g d]).flatten=l.map g:=fun l=>by
    induction l with
    | nil=>rfl
    | cons a l ih=>simp [ih]
  have hr:ARd A vk 1 ((List.range i).map fun d=>[g d]):=ARd.of_row (by intro r hr;obtain ⟨d,_,rfl⟩:=List.mem_map.1 hr;rfl) (by rw [e,List.length_map,List.length_range];exact h.ks)
  obtain ⟨b,o,c,e1,_,hc⟩:=hr.at d (by simpa using hd)
  refine ⟨b,o,c,by simpa using e1,?_⟩
  have h2:=hc 0 (g d) (by simp)
  rw [Nat.mul_one,Nat.add_zero] at h2
  exact h2
theorem wearV_ne (S:Sp) (B:(Th→Int)→Pp→Bool) {l:List Ev} (h:audE S l≠0):wearV S B l=[]:=if_neg h
def weF (B:(Th→Int)→Pp→Bool) (l:List Ev) (L:List Pp):List We:=(L.filter fun p=>decide (0<wrN B l p)).map fun p=>(p,wrN B l p,wrT B l p)
theorem weF_len (B:(Th→Int)→Pp→Bool) (l:List Ev) (L:List Pp):(weF B l L).length≤L.length:=by
  unfold weF
  rw [List.length_map]
  exact List.length_filter_le _ _
theorem weF_take {B:(Th→Int)→Pp→Bool} {l:List Ev} {L:List Pp} {k:Nat} (h:k<L.length):weF B l (L.take (k+1))=weF B l (L.take k)++if 0<wrN B l L[k] then [(L[k],wrN B l L[k],wrT B l L[k])] else []:=by
  unfold weF
  rw [List.take_succ_eq_append_getElem h,List.filter_append,List.map_append]
  congr 1
  by_cases q:0<wrN B l L[k]
  · rw [if_pos q,List.filter_cons_of_pos (by simpa using q)];rfl
  · rw [if_neg q,List.filter_cons_of_neg (by simpa using q)];rfl
theorem wtR_bound {c:Int}:∀ {ms:List (Int × Bool)},ms.Pairwise (fun x y=>x.1<y.1)→(∀ x∈ms,0≤x.1∧x.1≤c)→0≤wtR ms∧wtR ms≤c-(ms.head?.map (·.1)).getD c
  | [],_,_=>by simp [wtR]
  | [x],_,h=>by
    have:=h x (by simp)
    simp [wtR]
    omega
  | x :: y :: ms,ha,h=>by
    have ha1:=List.pairwise_cons.1 ha
    have ih:=wtR_bound (c:=c) ha1.2 fun z hz=>h z (List.mem_cons_of_mem _ hz)
    have h1:=h x (by simp)
    have h2:=ha1.1 y (by simp)
    obtain ⟨x1,x2⟩:=x
    obtain ⟨y1,y2⟩:=y
    simp only [wtR,List.head?_cons,Option.map_some,Option.getD_some] at ih h1 h2 ⊢
    split <;> omega
theorem Blk.drew' {W:World} {b:Nat} {t:TypeId} {cs:Array Value} (h:Blk W b t cs):Blk W.drew b t cs:=h
theorem getD_T {T:List Int} {i:Nat} (h:i<T.length):T.getD i 0=T[i]:=by rw [List.getD_eq_getElem?_getD,List.getElem?_eq_getElem h];rfl
def msT (N:Int→Bool) (T:List Int) (i:Nat):List (Int × Bool):=(T.take i).map fun t=>(t,N t)
theorem msT_succ {N:Int→Bool} {T:List Int} {i:Nat} (h:i<T.length):msT N T (i+1)=msT N T i++[(T[i],N T[i])]:=by
  unfold msT
  rw [List.take_succ_eq_append_getElem h,List.map_append]
  rfl
theorem msT_tm {N:Int→Bool} {T:List Int} {i:Nat} (h:i<T.length):tmR false (msT N T (i+1))=tmR false (msT N T i)+if N T[i] && !(lstB false (msT N T i)) then 1 else 0:=by rw [msT_succ h,tmR_snoc]
theorem msT_last {N:Int→Bool} {T:List Int} {i:Nat} (h:i<T.length):lstB false (msT N T (i+1))=N T[i]:=by rw [msT_succ h,lstB_snoc]
theorem msT_wt {N:Int→Bool} {T:List Int} {i:Nat} (h0:i<T.length) (h:i+1<T.length):wtR (msT N T (i+1+1))=wtR (msT N T (i+1))+if N T[i] then T[i+1]-T[i] else 0:=by
  rw [msT_succ h,msT_succ h0,List.append_assoc]
  exact wtR_snoc
theorem msT_end {N:Int→Bool} {T:List Int} {i:Nat} (h:i+1=T.length):msT N T (i+1+1)=msT N T (i+1):=by
  unfold msT
  rw [List.take_of_length_le (by omega),List.take_of_length_le (by omega)]
theorem msT_one (N:Int→Bool) (T:List Int):wtR (msT N T 1)=0:=by
  cases T with
  | nil=>rfl
  | cons t T=>rfl
theorem msT_bound {N:Int→Bool} {T:List Int} (ha:T.Pairwise (· < ·)) (h:∀ t∈T,0≤t∧t≤100000000) (i:Nat):0≤wtR (msT N T i)∧wtR (msT N T i)≤100000000:=by
  have h1:(msT N T i).Pairwise (fun x y=>x.1<y.1):=by
    unfold msT
    rw [List.pairwise_map]
    exact ha.sublist (List.take_sublist i T)
  have h2:∀ x∈msT N T i,0≤x.1∧x.1≤100000000:=fun x hx=>by
    unfold msT at hx
    obtain ⟨t,ht,rfl⟩:=List.mem_map.1 hx
    exact h t (List.mem_of_mem_take ht)
  have:=wtR_bound h1 h2
  have h3:0≤((msT N T i).head?.map (·.1)).getD 100000000:=by
    cases e:(msT N T i).head? with
    | none=>simp
    | some x =>
      have:=h2 x (List.mem_of_head? e)
      simp
      exact this.1
  omega
theorem msT_tmb (N:Int→Bool) (T:List Int) (i:Nat):0≤tmR false (msT N T i)∧tmR false (msT N T i)≤T.length:=by
  have h1:=tmR_nonneg (was:=false) (ms:=msT N T i)
  have h2:(msT N T i).length≤T.length:=by
    unfold msT
    rw [List.length_map,List.length_take]
    omega
  omega
set_option maxRecDepth 100000 in
set_option maxHeartbeats 12800000 in
theorem rwear_any (v1 v2 v3 v4:Value) (S:Sp) (ok:SpOk S) (fp:Nat→Value) (l:List Ev) (vl:Value) (B:(Th→Int)→Pp→Bool) (hB:SndIs S B) (w:World) (hsp:SpRd w v1 v2 v3 v4 fp S) (hlv:ARd w vl 5 (l.map evC)) (hl:l.length≤50000) :
    Calls Tryz.prog 27 #[.agg #[v1,v2,v3,v4],vl] w (WrE S B l w):=by
  obtain ⟨j0,hj0,jz0,jz1,jz2⟩:=info_parts pps_info2
  obtain ⟨i0,hi0,hz0,hz1,hz2⟩:=info_parts we_info
  have HB0:=Lib.hid (show Below w.heap.size w (w.alloc (.cells #[v1,v2,v3,v4] 27)) from (Below.refl _ w).alloc (Nat.le_refl _) _)
  have B0:=Lib.hid (Blk.new w 27 #[v1,v2,v3,v4])
  have HCK:=Lib.hid (fun (W:World) (hb:Below w.heap.size w W)=>rcheck34_any v1 v2 v3 v4 S ok fp l vl W (hsp.later hb) (by omega) (hlv.later hb))
  have HTK:=Lib.hid (fun (W:World) (hb:Below w.heap.size w W)=>ticks34_any l vl W (hlv.later hb) hl)
  have HSO:=Lib.hid (fun (h0:(recE S l).2=0) (t:Int) (W:World) (hb:Below w.heap.size w W)=>sounding34_any v1 v2 v3 v4 S ok fp l h0 vl t B hB W (hsp.later hb) (hlv.later hb))
  have HAL0:=Lib.hid (fun (h0:(checkP S).2=0) (W:World) (hb:Below w.heap.size w W)=>rall_any v1 v2 v3 v4 S W fp (hsp.later hb) (spGood h0).rs (spGood h0).r)
  have HSB:=Lib.hid hB
  clear hsp hlv ok hB
  go_enter Tryz.func27,Tryz.ntmps27
  go_wp2_with fail
  refine (HCK.out _ HB0.out).mono ?_
  rintro e W ⟨rfl,hb⟩
  have HB1:=Lib.hid (below_step HB0.out hb)
  have B1:=Lib.hid (B0.out.below hb)
  clear HCK hb B0 HB0
  by_cases hE:audE S l=0
  case neg =>
    have HN:=Lib.hid (wearV_ne S B hE)
    obtain ⟨e0,he0⟩:∃ e0,audE S l=e0:=⟨_,rfl⟩
    have HE:=Lib.hid he0
    rw [he0] at hE ⊢
    have q1:(e0==0)=false:=by simpa using hE
    clear he0 hE
    go_wp2
    go_ret2
    exact ⟨_,by rw [HE.out];rfl,by rw [HN.out];exact World.ownsRow_nil _ _ _ _,HB1.out⟩
  have HE:=Lib.hid hE
  rw [hE]
  obtain ⟨hck,hrk⟩:=audE_parts hE
  have HAS:=Lib.hid (audE_ok hE)
  have HSO2:=Lib.hid (HSO.out hrk)
  have HAL:=Lib.hid (HAL0.out hck)
  have HGD:=Lib.hid (spGood hck)
  clear hE HSO hck hrk HAL0
  go_wp2_with fail
  refine (HTK.out _ HB1.out).mono ?_
  rintro e W3 ⟨vt,rfl,ht,hb⟩
  have hT:=Lib.hid ht
  have HBW:=Lib.hid (below_step HB1.out hb)
  have HB3:=Lib.hid (B1.out.below hb)
  have HLT:=len_ticksL [] l
  rw [List.length_nil] at HLT
  have HMT:=Lib.hid (fun p=>mom_ticks B HAS.out.asc p)
  have HTA:=Lib.hid (show (ticksL [] l).Pairwise (· < ·) from asc_ticksL List.Pairwise.nil)
  have HTI:=Lib.hid (show ∀ t∈ticksL [] l,0≤t∧t≤100000000 from fun t ht=>by
    rcases mem_ticksL.1 ht with h | ⟨x,hx,rfl⟩
    · cases h
    · exact HAS.out.nonneg hx)
  obtain ⟨T,hTn⟩:∃ T,ticksL [] l=T:=⟨_,rfl⟩
  rw [hTn] at hT HLT ht HMT HTA HTI
  have hlT:T.length≤50000:=by omega
  obtain ⟨ta,tc,etv⟩:=ht.rd.intForm
  subst etv
  have HR0:=Lib.hid (Below.refl W3.heap.size W3)
  have HK0:=Lib.hid (RpI.start W3.heap.size T (fun t=>sndL S B (upF l t)) (fun _ => .slice none 0 0) W3)
  clear ht hb B1 HB1 HTK hTn HLT
  go_wp2
  go_loopw [8,9] (fun v x wr=>∃ (i:Nat) (g:Nat→Value),i≤T.length∧x = .int .i64 i∧RowKit.Hid (RpI W3.heap.size T (fun t=>sndL S B (upF l t)) g i v wr)∧RowKit.Hid (Below W3.heap.size W3 wr)) (fun _ x _=>T.length-(intOf x).toNat)
  case atStart=>exact ⟨0,_,Nat.zero_le _,rfl,HK0,HR0⟩
  clear HR0 HK0
  obtain ⟨i,g,hi,rfl,hK,hJ⟩:=hrel
  by_cases hil:i<T.length
  · as_aux_lemma =>
    have hi2:(i:Int)<(T.length:Int):=by omega
    obtain ⟨bt,ot,c',ev,hbt,q00⟩:=hT.out.rd.intAt i hil
    cases ev
    have q0:=(hJ.out.cell hbt).trans q00
    have HGT:=Lib.hid (getD_T hil)
    obtain ⟨tk,htk⟩:∃ tk,T[i]=tk:=⟨_,rfl⟩
    rw [htk] at q0 HGT
    have HC1:=Lib.hid (HSO2.out tk)
    have HBX:=Lib.hid (below_step HBW.out hJ.out)
    obtain ⟨ak,ck,evk⟩:=row_formN hK.out.ks
    subst evk
    obtain ⟨s0,s1,s2,s3⟩:=(HB3.out.below hJ.out).four
    have HQ00:=Lib.hid q00
    rw [htk] at HQ00
    have hdr:=hold5 (W0:=W3) ⟨hJ.out,s0,s1,s2,s3,q0⟩ ((Below.refl _ wr).drew)
    have HN4:=Lib.hid (fun (w3:World) (hb:Below W3.heap.size W3 w3)=>(by
      obtain ⟨e0,e1,e2,e3⟩:=(HB3.out.below hb).four
      exact ⟨hb,e0,e1,e2,e3,(hb.cell hbt).trans HQ00.out⟩:Below W3.heap.size W3 w3∧w3.cell? ⟨w.heap.size,0,none⟩=some v1∧w3.cell? ⟨w.heap.size,1,none⟩=some v2∧w3.cell? ⟨w.heap.size,2,none⟩=some v3∧w3.cell? ⟨w.heap.size,3,none⟩=some v4∧w3.cell? ⟨bt,ot+i,none⟩=some (.int .i64 tk)))
    clear htk q00
    go_upto_region 9 with fail
    go_region_held3 (fun w'=>Below W3.heap.size W3 w'∧w'.cell? ⟨w.heap.size,0,none⟩=some v1∧w'.cell? ⟨w.heap.size,1,none⟩=some v2∧w'.cell? ⟨w.heap.size,2,none⟩=some v3∧w'.cell? ⟨w.heap.size,3,none⟩=some v4∧w'.cell? ⟨bt,ot+i,none⟩=some (.int .i64 tk)) (first | exact hdr | exact hn | exact hn3 | exact hn4 | assumption | fail) (first | (go_at_call 21;(with_reducible refine (HC1.out _ (below_step HBW.out hdr.1)).mono ?_);rintro e w2 ⟨u,rfl,ho,hb2⟩;obtain ⟨a9,c9,rfl⟩:=row_formN ho;have hn:=hold5 hdr hb2;have hk2:=(hK.out.later ((Below.refl _ wr).drew)).later hb2;have ho2:=row_base ho hdr.1.size;have hw2:=hn.1.size;have hn3:=hold5 hn ((Below.refl w2.heap.size w2).alloc (Nat.le_refl _) (.cells #[.slice a9 (sndL S B (upF l tk)).length c9] 48))) | (refine step_append_lies _ rfl _ _ 126 rfl W3.heap.size 48 j0 _ 1 24 Tryz.underlying126 hj0 jz0 jz1 jz2 rfl (by omega) _ _ _ rfl (hk2.ks.alloc _) ⟨w2.heap.size,0,none⟩ 1 1 [.slice a9 (sndL S B (upF l tk)).length c9] rfl rfl (World.news_of_block (cs:=#[.slice a9 (sndL S B (upF l tk)).length c9]) (t:=48) (fr:=(0,0)) (heap_alloc_new w2 _)) (by simp [Value.oneCell']) (by omega) (by unfold maxLen;omega) (by omega) (by simp;omega) (w2.heap.size+1) (by simp) ?_;intro gg cap w3 hown hgrow hat hlt;have HP:=Lib.hid (hk2.push (by show w2.ownsRow _ _ 2 (.slice a9 (sndL S B (upF l tk)).length c9) (sndL S B (upF l (T.getD i 0))).length (ppCs (sndL S B (upF l (T.getD i 0))));rw [HGT.out];exact ho2) hgrow hown);have HPB:=Lib.hid (hn3.1.grown hgrow hn3.1.size (fun j e=>row_ge hk2.ks e));have hn4:=HN4.out w3 HPB.out) | fail)
    all_goals
      (clear hdr hn hn3 hn4 hk2 ho2 hw2 hown hgrow hat hlt s0 s1 s2 s3 q0 hK hJ HC1
       go_wp2
       go_roundw
       case rel=>exact ⟨i+1,_,by omega,by go_num,HP,HPB⟩
       case measure=>simp [intOf];omega)
  have hi2:¬ (i:Int)<(T.length:Int):=by omega
  have hie:i=T.length:=by omega
  subst hie
  have HBX:=Lib.hid (below_step HBW.out hJ.out)
  obtain ⟨a8,c8,ev8⟩:=row_formN hK.out.ks
  subst ev8
  obtain ⟨s0,s1,s2,s3⟩:=(HB3.out.below hJ.out).four
  have hTW:=Lib.hid (hT.out.later hJ.out)
  go_wp2_with fail
  refine (HAL.out _ HBX.out).mono ?_
  rintro e W4 ⟨vp,rfl,hro,hb4⟩
  have HPP:=Lib.hid (ARd.of_pps hro)
  obtain ⟨ap,cp,evp⟩:=row_formN hro
  subst evp
  have HB5:=Lib.hid (below_step HBX.out hb4)
  have HK5:=Lib.hid (hK.out.later hb4)
  have HT5:=Lib.hid (hTW.out.later hb4)
  have hall:=allFrom_len HGD.out.r 0
  have hall2:(allFrom 0 S.rs).length≤4000:=by have:=HGD.out.rs;omega
  have HW0:=Lib.hid (show W4.ownsRow W4.heap.size 64 4 (.slice none 0 0) (weF B l ((allFrom 0 S.rs).take 0)).length (weCs (weF B l ((allFrom 0 S.rs).take 0))) from World.ownsRow_nil _ _ _ _)
  have HL0:=Lib.hid (Below.refl W4.heap.size W4)
  have HWV:=Lib.hid (show wearV S B l=weF B l (allFrom 0 S.rs) by unfold wearV;rw [if_pos HE.out];rfl)
  obtain ⟨AL,hAL⟩:∃ AL,allFrom 0 S.rs=AL:=⟨_,rfl⟩
  have HMS:=Lib.hid (fun (p:Pp) (hp:p∈AL) (f:Th→Int)=>show decide (p∈sndL S B f)=B f p by
    unfold sndL
    rw [hAL,Bool.eq_iff_iff,decide_eq_true_iff,List.mem_filter]
    exact ⟨fun h=>h.2,fun h=>⟨hp,h⟩⟩)
  have HSL:=Lib.hid (fun (f:Th→Int)=>show (sndL S B f).length≤4000 from sndL_len HAS.out.sp B f)
  rw [hAL] at HPP HW0 HWV hall2 ⊢
  clear hro hb4 hK hJ hTW hT s0 s1 s2 s3 hi HBX hall hAL HAL HSO2 hi2
  go_wp2
  go_loopw [11,12] (fun v x wr=>∃ (k:Nat),k≤AL.length∧x = .int .i64 k∧RowKit.Hid (wr.ownsRow W4.heap.size 64 4 v (weF B l (AL.take k)).length (weCs (weF B l (AL.take k))))∧RowKit.Hid (Below W4.heap.size W4 wr)) (fun _ x _=>AL.length-(intOf x).toNat)
  case atStart=>exact ⟨0,Nat.zero_le _,rfl,HW0,HL0⟩
  clear HW0 HL0
  obtain ⟨k,hk,rfl,hrow,hJ⟩:=hrel
  by_cases hkl:k<AL.length
  · have hk2:(k:Int)<(AL.length:Int):=by omega
    obtain ⟨b,o,c',ev,hbl,q0,q1⟩:=(HPP.out.later hJ.out).ppAt k hkl
    cases ev
    have HWT:=Lib.hid (weF_take (B:=B) (l:=l) hkl)
    have HPM:=Lib.hid (List.getElem_mem hkl)
    have hwl:=weF_len B l (AL.take k)
    rw [List.length_take] at hwl
    obtain ⟨p,hp⟩:∃ p,AL[k]=p:=⟨_,rfl⟩
    rw [hp] at q0 q1 HWT HPM
    have HPK:=Lib.hid hp
    obtain ⟨WL,hWL⟩:∃ WL,weF B l (AL.take k)=WL:=⟨_,rfl⟩
    rw [hWL] at hrow HWT hwl
    have HBJ:=Lib.hid (below_step HB5.out hJ.out)
    have hsz:=hJ.out.size
    have hal:Below wr.heap.size wr (wr.alloc (.cells #[.int .i64 p.1,.int .i64 p.2,.int .i64 0,.int .i64 0] 64)):=(Below.refl _ wr).alloc (Nat.le_refl _) _
    have HX0:=Lib.hid (Blk.new wr 64 #[.int .i64 p.1,.int .i64 p.2,.int .i64 0,.int .i64 0])
    have HA0:=Lib.hid hal
    clear hp hWL hal
    go_upto_region 16 with fail
    rename World=>W5
    obtain ⟨X,hX⟩:∃ X,W5.heap.size=X:=⟨_,rfl⟩
    rw [hX] at HX0 ⊢
    generalize W5.alloc (.cells #[.int .i64 p.1,.int .i64 p.2,.int .i64 0,.int .i64 0] 64)=WA at *
    have HXL:=Lib.hid (show W5.heap.size≤X by omega)
    have HMP:=Lib.hid (show msT (fun t=>B (upF l t) p) T T.length=momP B l p l.length by unfold msT;rw [List.take_length];exact HMT.out p)
    have HXS:=Lib.hid (show Blk WA X 64 #[.int .i64 p.1,.int .i64 p.2,.int .i64 (tmR false (msT (fun t=>B (upF l t) p) T 0)),.int .i64 (wtR (msT (fun t=>B (upF l t) p) T (0+1)))] by rw [msT_one];exact HX0.out)
    clear hX HX0 q0 q1
    go_wp2
    go_loopw [14,15] (fun v x wr=>∃ (i:Nat),i≤T.length∧x = .int .i64 i∧v = .bool (lstB false (msT (fun t=>B (upF l t) p) T i))∧RowKit.Hid (Blk wr X 64 #[.int .i64 p.1,.int .i64 p.2,.int .i64 (tmR false (msT (fun t=>B (upF l t) p) T i)),.int .i64 (wtR (msT (fun t=>B (upF l t) p) T (i+1)))])∧RowKit.Hid (Below W5.heap.size W5 wr)) (fun _ x _=>T.length-(intOf x).toNat)
    case atStart=>exact ⟨0,Nat.zero_le _,rfl,rfl,HXS,HA0⟩
    clear HXS HA0
    obtain ⟨i,hi,rfl,rfl,hX,hC⟩:=hrel
    by_cases hil:i<T.length
    · as_aux_lemma =>
      have hi2:(i:Int)<(T.length:Int):=by omega
      have HCB:=Lib.hid (below_step hJ.out hC.out)
      obtain ⟨bs,os,c8',ev8,x8⟩:=(HK5.out.later HCB.out).at' hil
      cases ev8
      have hrs:=(HK5.out.later HCB.out).rs i hil
      rw [getD_T hil] at hrs
      obtain ⟨b2,o2,c2',ev2,hbl2,q0,q1⟩:=(HPP.out.later HCB.out).ppAt k hkl
      cases ev2
      rw [HPK.out] at q0 q1
      have HTM:=Lib.hid (msT_tm (N:=fun t=>B (upF l t) p) hil)
      have HLA:=Lib.hid (msT_last (N:=fun t=>B (upF l t) p) hil)
      have HWN:=Lib.hid (fun (h:i+1<T.length)=>msT_wt (N:=fun t=>B (upF l t) p) hil h)
      have HWE:=Lib.hid (fun (h:i+1=T.length)=>msT_end (N:=fun t=>B (upF l t) p) h)
      have htb:=msT_tmb (fun t=>B (upF l t) p) T i
      have hwb:=msT_bound (N:=fun t=>B (upF l t) p) HTA.out HTI.out (i+1)
      obtain ⟨tk,htk⟩:∃ z,T[i]=z:=⟨_,rfl⟩
      rw [htk] at hrs HTM HLA HWN
      have HTK:=Lib.hid htk
      have HIN:=Lib.hid (in34_any (sndL S B (upF l tk)) (g i) p)
      have HAR:=Lib.hid (fun (W:World) (hb:Below wr.heap.size wr W)=>(ARd.of_pps hrs).later hb)
      obtain ⟨now,hnow⟩:∃ b,B (upF l tk) p=b:=⟨_,rfl⟩
      have hMN:=HMS.out p HPM.out (upF l tk)
      rw [hnow] at hMN HTM HLA HWN
      have HC1:=Lib.hid (fun (W:World) (hb:Below wr.heap.size wr W)=>(HIN.out W (HAR.out W hb) (Nat.le_trans (HSL.out _) (by omega))).mono (R':=BoolR now W) (fun e w' h=>by rw [hMN] at h;exact h))
      obtain ⟨was,hwas⟩:∃ b,lstB false (msT (fun t=>B (upF l t) p) T i)=b:=⟨_,rfl⟩
      obtain ⟨tm,htm⟩:∃ b,tmR false (msT (fun t=>B (upF l t) p) T i)=b:=⟨_,rfl⟩
      obtain ⟨wt,hwt⟩:∃ b,wtR (msT (fun t=>B (upF l t) p) T (i+1))=b:=⟨_,rfl⟩
      rw [hwas] at HTM ⊢
      rw [htm] at HTM hX htb
      rw [hwt] at hX HWN hwb
      obtain ⟨ga,gc,hgi⟩:=row_formN hrs
      rw [hgi] at x8
      have hdr:=hold3 (W0:=wr) ⟨Below.refl _ wr,x8,q0,q1⟩ ((Below.refl _ wr).drew)
      rw [hgi] at HC1
      have HWT0:=Lib.hid hwt
      clear hnow hwas htm hwt htk hMN hrs HIN HAR hgi
      go_wp2_with fail
      go_cut [16] from 54 to 100 (fun x16 wx=>x16 = .bool now∧RowKit.Hid (Below wr.heap.size wr wx))
      case first =>
        go_region_held3 (fun w'=>Below wr.heap.size wr w'∧w'.cell? ⟨bs,os+i,none⟩=some (.slice ga (sndL S B (upF l tk)).length gc)∧w'.cell? ⟨b,o+k * 2,none⟩=some (.int .i64 p.1)∧w'.cell? ⟨b,o+k * 2+1,none⟩=some (.int .i64 p.2)) (first | exact hdr | assumption | fail) (first | (go_at_call 22;(with_reducible refine (HC1.out _ hdr.1).mono ?_);rintro e w2 ⟨rfl,hb2⟩;have hn:=hold3 hdr hb2;clear hb2) | fail)
        all_goals
          (have HNB:=Lib.hid hn.1
           clear hdr hn x8 q0 q1 HC1
           go_wp2_with fail
           go_meet
           exact ⟨rfl,HNB⟩)
      case rest =>
      obtain ⟨rfl,hbx⟩:=hcut
      rename World=>W7
      have HX7:=Lib.hid (hX.out.below hbx.out)
      have HC7:=Lib.hid (below_step hC.out hbx.out)
      clear hX hC hbx hdr x8 q0 q1 HC1 HCB
      cases now with
      | false =>
        have HTF:=Lib.hid (show tmR false (msT (fun t=>B (upF l t) p) T (i+1))=tm by rw [HTM.out];simp)
        have HWF:=Lib.hid (show wtR (msT (fun t=>B (upF l t) p) T (i+1+1))=wt by
          by_cases hin:i+1<T.length
          · rw [HWN.out hin];simp
          · rw [HWE.out (by omega),HWT0.out])
        clear HTM HWN HWE
        go_wp2
        go_roundw
        case rel=>exact ⟨i+1,by omega,by go_num,by rw [HLA.out],by rw [HTF.out,HWF.out];exact HX7,HC7⟩
        case measure=>simp [intOf];omega
      | true =>
      cases was with
      | true =>
        have HTF:=Lib.hid (show tmR false (msT (fun t=>B (upF l t) p) T (i+1))=tm by rw [HTM.out];simp)
        clear HTM
        by_cases hin:i+1<T.length
        · have hin2:(i:Int)+1<(T.length:Int):=by omega
          have HWT2:=Lib.hid (HWN.out hin)
          have e1:IntKind.i64.wrap ((i:Int)+1)=(i:Int)+1:=IntWalk.i64_in _ (by omega)
          have e4:(0:Int)≤(i:Int)+1:=by omega
          have e5:((i:Int)+1).toNat=i+1:=by omega
          have hlt:=List.pairwise_iff_getElem.1 HTA.out i (i+1) hil hin (by omega)
          have hb1:=HTI.out _ (List.getElem_mem hil)
          have hb2:=HTI.out _ (List.getElem_mem hin)
          obtain ⟨bt,ot,c9,ev9,hbl9,z0⟩:=(HT5.out.later (below_step hJ.out HC7.out)).rd.intAt i hil
          cases ev9
          obtain ⟨bt',ot',c9',ev9',hbl9',z1⟩:=(HT5.out.later (below_step hJ.out HC7.out)).rd.intAt (i+1) hin
          cases ev9'
          rw [HTK.out] at z0 hlt hb1
          obtain ⟨tn,htn⟩:∃ z,T[i+1]=z:=⟨_,rfl⟩
          rw [htn] at z1 hlt hb2 HWT2
          have c3:=HX7.out.cell 3
          have f3:=HX7.out.frozen 3
          simp only [List.getElem?_toArray,List.getElem?_cons_zero,List.getElem?_cons_succ] at c3
          have HXN:=Lib.hid (show Blk (W7.setCell ⟨X,3,none⟩ (.int .i64 (wt+tn-tk))) X 64 #[.int .i64 p.1,.int .i64 p.2,.int .i64 tm,.int .i64 (wt+tn-tk)] from HX7.out.set 3 _)
          have HCN:=Lib.hid (show Below W5.heap.size W5 (W7.setCell ⟨X,3,none⟩ (.int .i64 (wt+tn-tk))) from HC7.out.setCell (p:=⟨X,3,none⟩) HXL.out _)
          have HWF:=Lib.hid (show wtR (msT (fun t=>B (upF l t) p) T (i+1+1))=wt+tn-tk by rw [HWT2.out,if_pos rfl];omega)
          clear htn hlt HWT2 HWE HWN
          go_upto_region 24 with fail
          go_region
          all_goals
            (go_wp2
             go_roundw
             case rel=>exact ⟨i+1,by omega,by go_num,by rw [HLA.out],by rw [HTF.out,HWF.out];exact Lib.hid (Blk.drew' HXN.out),Lib.hid HCN.out.drew⟩
             case measure=>simp [intOf];omega)
        · have hin2:¬ (i:Int)+1<(T.length:Int):=by omega
          have e1:IntKind.i64.wrap ((i:Int)+1)=(i:Int)+1:=IntWalk.i64_in _ (by omega)
          have HWF:=Lib.hid (HWE.out (by omega))
          clear HWE HWN
          go_wp2
          go_roundw
          case rel=>exact ⟨i+1,by omega,by go_num,by rw [HLA.out],by rw [HTF.out,HWF.out,HWT0.out];exact HX7,HC7⟩
          case measure=>simp [intOf];omega
      | false =>
        have HTF:=Lib.hid (show tmR false (msT (fun t=>B (upF l t) p) T (i+1))=tm+1 by rw [HTM.out];simp)
        have c2:=HX7.out.cell 2
        have f2:=HX7.out.frozen 2
        simp only [List.getElem?_toArray,List.getElem?_cons_zero,List.getElem?_cons_succ] at c2
        have HX8:=Lib.hid (show Blk (W7.setCell ⟨X,2,none⟩ (.int .i64 (tm+1))) X 64 #[.int .i64 p.1,.int .i64 p.2,.int .i64 (tm+1),.int .i64 wt] from HX7.out.set 2 _)
        have HC8:=Lib.hid (show Below W5.heap.size W5 (W7.setCell ⟨X,2,none⟩ (.int .i64 (tm+1))) from HC7.out.setCell (p:=⟨X,2,none⟩) HXL.out _)
        clear HTM HX7 HC7
        go_upto_region 23 with fail
        generalize W7.setCell ⟨X,2,none⟩ (.int .i64 (tm+1))=W8 at *
        clear c2 f2
        by_cases hin:i+1<T.length
        · have hin2:(i:Int)+1<(T.length:Int):=by omega
          have HWT2:=Lib.hid (HWN.out hin)
          have e1:IntKind.i64.wrap ((i:Int)+1)=(i:Int)+1:=IntWalk.i64_in _ (by omega)
          have e4:(0:Int)≤(i:Int)+1:=by omega
          have e5:((i:Int)+1).toNat=i+1:=by omega
          have hlt:=List.pairwise_iff_getElem.1 HTA.out i (i+1) hil hin (by omega)
          have hb1:=HTI.out _ (List.getElem_mem hil)
          have hb2:=HTI.out _ (List.getElem_mem hin)
          obtain ⟨bt,ot,c9,ev9,hbl9,z0⟩:=(HT5.out.later (below_step hJ.out HC8.out)).rd.intAt i hil
          cases ev9
          obtain ⟨bt',ot',c9',ev9',hbl9',z1⟩:=(HT5.out.later (below_step hJ.out HC8.out)).rd.intAt (i+1) hin
          cases ev9'
          rw [HTK.out] at z0 hlt hb1
          obtain ⟨tn,htn⟩:∃ z,T[i+1]=z:=⟨_,rfl⟩
          rw [htn] at z1 hlt hb2 HWT2
          have c3:=HX8.out.cell 3
          have f3:=HX8.out.frozen 3
          simp only [List.getElem?_toArray,List.getElem?_cons_zero,List.getElem?_cons_succ] at c3
          have HXN:=Lib.hid (show Blk (W8.setCell ⟨X,3,none⟩ (.int .i64 (wt+tn-tk))) X 64 #[.int .i64 p.1,.int .i64 p.2,.int .i64 (tm+1),.int .i64 (wt+tn-tk)] from HX8.out.set 3 _)
          have HCN:=Lib.hid (show Below W5.heap.size W5 (W8.setCell ⟨X,3,none⟩ (.int .i64 (wt+tn-tk))) from HC8.out.setCell (p:=⟨X,3,none⟩) HXL.out _)
          have HWF:=Lib.hid (show wtR (msT (fun t=>B (upF l t) p) T (i+1+1))=wt+tn-tk by rw [HWT2.out,if_pos rfl];omega)
          clear htn hlt HWT2 HWE HWN
          go_upto_region 24 with fail
          go_region
          all_goals
            (go_wp2
             go_roundw
             case rel=>exact ⟨i+1,by omega,by go_num,by rw [HLA.out],by rw [HTF.out,HWF.out];exact Lib.hid (Blk.drew' HXN.out),Lib.hid HCN.out.drew⟩
             case measure=>simp [intOf];omega)
        · have hin2:¬ (i:Int)+1<(T.length:Int):=by omega
          have e1:IntKind.i64.wrap ((i:Int)+1)=(i:Int)+1:=IntWalk.i64_in _ (by omega)
          have HWF:=Lib.hid (HWE.out (by omega))
          clear HWE HWN
          go_wp2
          go_roundw
          case rel=>exact ⟨i+1,by omega,by go_num,by rw [HLA.out],by rw [HTF.out,HWF.out,HWT0.out];exact HX8,HC8⟩
          case measure=>simp [intOf];omega
    have hi2:¬ (i:Int)<(T.length:Int):=by omega
    have hie:i=T.length:=by omega
    subst hie
    have HXF:=Lib.hid (show Blk wr X 64 #[.int .i64 p.1,.int .i64 p.2,.int .i64 (wrN B l p),.int .i64 (wrT B l p)] by
      have h:=hX.out
      have e:msT (fun t=>B (upF l t) p) T (T.length+1)=msT (fun t=>B (upF l t) p) T T.length:=by unfold msT;rw [List.take_of_length_le (by omega),List.take_length]
      rw [e,HMP.out] at h
      exact h)
    have HRW:=Lib.hid (row_later hrow.out hC.out)
    have HCW:=Lib.hid (below_step hJ.out hC.out)
    obtain ⟨nn,hnn⟩:∃ z,wrN B l p=z:=⟨_,rfl⟩
    obtain ⟨nt,hnt⟩:∃ z,wrT B l p=z:=⟨_,rfl⟩
    rw [hnn,hnt] at HXF HWT
    have c0:=HXF.out.cell 0
    have c1:=HXF.out.cell 1
    have c2:=HXF.out.cell 2
    have c3:=HXF.out.cell 3
    simp only [List.getElem?_toArray,List.getElem?_cons_zero,List.getElem?_cons_succ] at c0 c1 c2 c3
    have hszw:=HCW.out.size
    clear hX hC hrow hJ hnn hnt HMP
    by_cases hn:0<nn
    · have d1:decide (0<nn)=true:=decide_eq_true hn
      have HE2:=Lib.hid (HWT.out.trans (by rw [if_pos hn]))
      clear hn HWT
      go_wp2_with (at_builtin;refine wpList_append_lies _ rfl _ _ 60 rfl W4.heap.size 64 i0 _ 4 32 Tryz.underlying60 hi0 hz0 hz1 hz2 rfl (by omega) _ _ _ rfl (HRW.out.alloc _) ⟨wr.heap.size,0,none⟩ 1 1 [.int .i64 p.1,.int .i64 p.2,.int .i64 nn,.int .i64 nt] rfl rfl (World.news_of_block (cs:=#[.int .i64 p.1,.int .i64 p.2,.int .i64 nn,.int .i64 nt]) (t:=64) (fr:=(0,0)) (heap_alloc_new wr _)) (by simp [Value.oneCell']) (by omega) (by unfold maxLen;omega) (by omega) (by simp;omega) (wr.heap.size+1) (by simp) ?_;intro gg cap w3 hown3 hgrow hat3 hlt3)
      have HP:=Lib.hid (wes_step (l:=WL) (p:=p) (a:=nn) (b:=nt) hown3 rfl)
      rw [← HE2.out] at HP
      have HBZ:=Lib.hid (push_low HCW.out HRW.out hgrow)
      clear hown3 hgrow hat3 hlt3
      go_wp2
      go_roundw
      case rel=>exact ⟨k+1,by omega,by go_num,by have:=HP.out;rw [HE2.out] at this ⊢;simpa only [List.length_append] using Lib.hid this,HBZ⟩
      case measure=>simp [intOf];omega
    · have d1:decide (0<nn)=false:=decide_eq_false hn
      have HE2:=Lib.hid (HWT.out.trans (by rw [if_neg hn,List.append_nil]))
      clear hn HWT
      go_wp2
      go_roundw
      case rel=>exact ⟨k+1,by omega,by go_num,by rw [HE2.out];exact HRW,HCW⟩
      case measure=>simp [intOf];omega
  have hk2:¬ (k:Int)<(AL.length:Int):=by omega
  have hke:k=AL.length:=by omega
  rw [hke,List.take_length,← HWV.out] at hrow
  have HRF:=Lib.hid (row_base hrow.out HB5.out.size)
  have HBF:=Lib.hid (below_step HB5.out hJ.out)
  clear hke hrow hJ
  go_wp2
  go_ret2
  exact ⟨_,by rw [HE.out];rfl,HRF.out,HBF.out⟩
end Go.Proofs.YthhfmppealmblaaGreatDoor
namespace Go.Proofs.YthhfmppealmblaaGreatDoor
open Go.RowKit Go.Shelf
set_option maxRecDepth 100000 in
set_option maxHeartbeats 3200000 in
theorem beforeW_any (a1 a2 a3 a4 b1 b2 b3 b4:Int) (W:World):Calls Tryz.prog 58 #[.agg #[.int .i64 a1,.int .i64 a2,.int .i64 a3,.int .i64 a4],.agg #[.int .i64 b1,.int .i64 b2,.int .i64 b3,.int .i64 b4]] W fun e w'=>e = .returned (.int .i64 (cfI a1 a2 b1 b2))∧Grw W w':=by
  have m1:=((Blk.new W 64 #[.int .i64 a1,.int .i64 a2,.int .i64 a3,.int .i64 a4]).alloc (.cells #[.int .i64 b1,.int .i64 b2,.int .i64 b3,.int .i64 b4] 64))
  have m2:=Blk.new (W.alloc (.cells #[.int .i64 a1,.int .i64 a2,.int .i64 a3,.int .i64 a4] 64)) 64 #[.int .i64 b1,.int .i64 b2,.int .i64 b3,.int .i64 b4]
  rw [World.size_alloc] at m2
  have M1:=Lib.hid m1
  have M2:=Lib.hid m2
  have HG:=Lib.hid (((Grw.refl W).alloc (.cells #[.int .i64 a1,.int .i64 a2,.int .i64 a3,.int .i64 a4] 64)).alloc (.cells #[.int .i64 b1,.int .i64 b2,.int .i64 b3,.int .i64 b4] 64))
  clear m1 m2
  go_enter Tryz.func58,Tryz.ntmps58
  go_wp2_with fail
  obtain ⟨W2,hW2⟩:∃ W2,(W.alloc (.cells #[.int .i64 a1,.int .i64 a2,.int .i64 a3,.int .i64 a4] 64)).alloc (.cells #[.int .i64 b1,.int .i64 b2,.int .i64 b3,.int .i64 b4] 64)=W2:=⟨_,rfl⟩
  rw [hW2] at M1 M2 HG ⊢
  have x0:W2.cell? ⟨W.heap.size,0,none⟩=some (.int .i64 a1):=M1.out.cell 0
  have z0:W2.cell? ⟨W.heap.size+1,0,none⟩=some (.int .i64 b1):=M2.out.cell 0
  have x1:W2.cell? ⟨W.heap.size,1,none⟩=some (.int .i64 a2):=M1.out.cell 1
  have z1:W2.cell? ⟨W.heap.size+1,1,none⟩=some (.int .i64 b2):=M2.out.cell 1
  clear hW2 M1 M2
  first
    | (refine (pipes_any a1 a2 b1 b2 _).mono ?_
       rintro e w5 ⟨rfl,hg5⟩
       have HG5:=Lib.hid (HG.out.trans hg5)
       clear hg5 x0 x1 z0 z1
       go_wp2
       go_ret
       exact ⟨rfl,HG5.out⟩)
    | (go_wp2_with fail
       refine (pipes_any a1 a2 b1 b2 _).mono ?_
       rintro e w5 ⟨rfl,hg5⟩
       have HG5:=Lib.hid (HG.out.trans hg5)
       clear hg5 x0 x1 z0 z1
       go_wp2
       go_ret
       exact ⟨rfl,HG5.out⟩)
    | fail
instance (a b:We):Decidable (weLt a b):=by unfold weLt ppLt;infer_instance
def cfWP (a b:We):Int:=cfI a.1.1 a.1.2 b.1.1 b.1.2
theorem weLt_trans {a b c:We} (h:weLt a b) (k:weLt b c):weLt a c:=ppLt_trans h k
theorem weLt_ntrans {a b c:We} (h:¬ weLt a b) (k:¬ weLt b c):¬ weLt a c:=by
  obtain ⟨⟨a1,a2⟩,a3⟩:=a
  obtain ⟨⟨b1,b2⟩,b3⟩:=b
  obtain ⟨⟨c1,c2⟩,c3⟩:=c
  unfold weLt ppLt at *
  simp only at *
  omega
theorem ltW (x y:We):ltOf cfWP x y=decide (weLt x y):=by
  rw [Bool.eq_iff_iff,decide_eq_true_iff]
  unfold ltOf
  rw [decide_eq_true_iff]
  unfold cfWP weLt
  exact cfI_lt _ _ _ _
theorem swoW:Sort.SWO (ltOf cfWP) where
  irrefl x:=by rw [ltW];simpa using weLt_irrefl x
  trans x y z h1 h2:=by rw [ltW] at *;simp only [decide_eq_true_eq] at *;exact weLt_trans h1 h2
  ntrans x y z h1 h2:=by
    rw [ltW] at *
    simp only [decide_eq_false_iff_not] at *
    exact weLt_ntrans h1 h2
set_option maxHeartbeats 1000000 in
theorem sortW_any (l:List We) (hn:l.length≤1000000000) (base:Nat) (v:Value) (w:World) (h:w.ownsRow base 64 4 v l.length (l.map weC).flatten) :
    Calls Tryz.prog 57 #[v,.func (.func 58) #[] #[]] w fun e w'=>e = .returned (.tuple #[])∧∃ m:List We,m.Perm l∧(m.Pairwise fun a b=>¬ weLt b a)∧w'.ownsRow base 64 4 v m.length (m.map weC).flatten∧w.grownBy w' v.ownBlock:=by
  rcases h.2 with ⟨hv,h0⟩ | ⟨g,cap,cur,hv,hbg,hg,hrest⟩
  · have hl0:l=[]:=List.length_eq_zero_iff.1 h0
    subst hl0
    have hcon:=AnyF.slices_SortFunc_none Tryz.sortWear none 0 (.func (.func 58) #[] #[]) w
    rw [← hv] at hcon
    change Calls Tryz.prog 57 _ _ _ at hcon
    refine hcon.mono ?_
    rintro e w' ⟨rfl,rfl⟩
    exact ⟨rfl,[],List.Perm.refl _,List.Pairwise.nil,h,World.grownBy.refl _ _⟩
  · obtain ⟨d,hd⟩:∃ d:Array We,d.toList=l:=⟨l.toArray,rfl⟩
    have hsz:d.size=l.length:=by rw [← hd,Array.length_toList]
    have eg:∀ args w,(callFunc 58 args).run Tryz.prog w = .ok (.enter 58 args) w:=enters_of Tryz.func58 (by kernel_rfl) rfl
    have h':=h
    rw [hv,← hd] at h'
    rw [Array.length_toList] at h'
    have hH:=holdsK_row (enc:=weC) (k:=4) (fun _=>rfl) h'
    have hcon:=AnyQ.slices_SortFunc Tryz.sortWear 4 Tryz.isAgg64 Tryz.sizeOf64 weC (fun _=>rfl) (fun x v hv=>by simp [weC] at hv;rcases hv with rfl | rfl | rfl | rfl <;> rfl) cfWP swoW 58 #[] g 0 cap d w eg (fun _ _ _ _ x y=>beforeW_any x.1.1 x.1.2 x.2.1 x.2.2 y.1.1 y.1.2 y.2.1 y.2.2 _) hH.1 hH.2 (by omega)
    rw [hsz,← hv] at hcon
    change Calls Tryz.prog 57 _ _ _ at hcon
    refine hcon.mono ?_
    rintro e w' ⟨rfl,d',n,os,hp,hs,rfl⟩
    obtain ⟨hsz2,_,hperm⟩:=hp
    rw [← hsz] at hperm hs
    have e1:d'.extract 0 d.size=d':=by rw [← hsz2];exact Array.extract_size
    rw [e1,Array.extract_size] at hperm
    refine ⟨rfl,d'.toList,?_,?_,?_,?_⟩
    · rw [← hd];exact hperm
    · rw [List.pairwise_iff_getElem]
      intro i j hi hj hij
      have hj':j<d'.size:=by simpa using hj
      have hi':i<d'.size:=by simpa using hi
      have:=hs i j (Nat.zero_le _) hij (by omega)
      rw [ltW,getElem!_pos d' i hi',getElem!_pos d' j hj'] at this
      simpa using this
    · have:=sorted_row (enc:=weC) (n:=n) (os:=os) (fun _=>rfl) hsz2 h'
      rw [hv,← hsz]
      simpa [Array.length_toList] using this
    · rw [hv];exact sorted_grown
end Go.Proofs.YthhfmppealmblaaGreatDoor
namespace Go.Proofs.YthhfmppealmblaaGreatDoor
open Go.RowKit
structure WM (w W:World) (vo:Value) (out:List Cg) (mb:Nat) (D:List (Pp × Value)) (N T:Pp→Int):Prop where
 mp:Mp ekP W mb D
 bl:∀ p v,(p,v)∈D→∃ b,v = .pointer (some ⟨b,0,none⟩)∧w.heap.size≤b∧Blk W b 64 #[.int .i64 p.1,.int .i64 p.2,.int .i64 (N p),.int .i64 (T p)]
 row:W.ownsRow w.heap.size 91 5 vo out.length (cgCs out)
 mbl:w.heap.size≤mb
 be:Below w.heap.size w W
theorem WM.later {w W W':World} {vo:Value} {out:List Cg} {mb:Nat} {D:List (Pp × Value)} {N T:Pp→Int} (h:WM w W vo out mb D N T) (hb:Below W.heap.size W W'):WM w W' vo out mb D N T :=
 ⟨h.mp.below hb,fun p v hp=>by
  obtain ⟨b,e,h1,h2⟩:=h.bl p v hp
  exact ⟨b,e,h1,h2.below hb⟩,row_later h.row hb,h.mbl,below_step h.be hb⟩
theorem WM.drew {w W:World} {vo:Value} {out:List Cg} {mb:Nat} {D:List (Pp × Value)} {N T:Pp→Int} (h:WM w W vo out mb D N T):WM w W.drew vo out mb D N T:=h.later (Below.refl _ W).drew
theorem blk_off_row {W:World} {b base n k:Nat} {t t2:TypeId} {cs:Array Value} {v:Value} {xs:List Value} (h:Blk W b t cs) (hr:W.ownsRow base t2 k v n xs) (hne:t≠t2):v.ownBlock=none∨v.ownBlock≠some b:=by
 rcases hr.2 with ⟨rfl,_⟩ | ⟨g,cap,cur,rfl,_,hgg,_⟩
 ·exact .inl rfl
 ·refine .inr fun e=>?_
  have e':g=b:=Option.some.inj e
  subst e'
  unfold Blk at h
  rw [h] at hgg
  cases hgg
  exact hne rfl
theorem WM.set (i:Nat) {w W:World} {vo:Value} {out:List Cg} {mb:Nat} {D:List (Pp × Value)} {N T N' T':Pp→Int} (h:WM w W vo out mb D N T) {q:Pp} {Y:Nat} (hq:(q,Value.pointer (some ⟨Y,0,none⟩))∈D) (u:Value)
  (hN:∀ p,p≠q→N p=N' p) (hT:∀ p,p≠q→T p=T' p)
  (hu:(#[.int .i64 q.1,.int .i64 q.2,.int .i64 (N q),.int .i64 (T q)]:Array Value).setIfInBounds i u=#[.int .i64 q.1,.int .i64 q.2,.int .i64 (N' q),.int .i64 (T' q)]):WM w (W.setCell ⟨Y,i,none⟩ u) vo out mb D N' T':=by
 obtain ⟨b,e,h1,h2⟩:=h.bl q _ hq
 obtain rfl:Y=b:=by cases e;rfl
 have hg:=set_grown W Y i u
 refine ⟨h.mp.kept hg (fun e=>mp_not_blk h.mp h2 (Option.some.inj e).symm),fun p v hp=>?_,h.row.kept hg (blk_off_row h2 h.row (by decide)),h.mbl,h.be.setCell (p:=⟨Y,i,none⟩) h1 _⟩
 obtain ⟨b,e2,h3,h4⟩:=h.bl p v hp
 by_cases hpq:p=q
 ·subst hpq
  have k1:=mget_of_mem h.mp.nodup hp
  have k2:=mget_of_mem h.mp.nodup hq
  rw [k1] at k2
  have k3:=Option.some.inj k2
  rw [k3] at e2
  obtain rfl:Y=b:=by cases e2;rfl
  refine ⟨Y,k3,h3,?_⟩
  have:=h2.set i u
  rw [hu] at this
  exact this
 ·refine ⟨b,e2,h3,?_⟩
  rw [← hN p hpq,← hT p hpq]
  refine h4.other _ _ (fun hb=>hpq ?_)
  have hb':b=Y:=hb
  subst hb'
  unfold Blk at h4 h2
  rw [h4] at h2
  simp only [Option.some.injEq,Obj.cells.injEq,Array.mk.injEq,List.cons.injEq,Value.int.injEq,and_true,true_and] at h2
  exact Prod.ext h2.1 h2.2.1
theorem WM.put {w W W':World} {vo:Value} {out:List Cg} {mb:Nat} {D:List (Pp × Value)} {N T:Pp→Int} (h:WM w W vo out mb D N T) {q:Pp} {Y:Nat} (hY:Blk W Y 64 #[.int .i64 q.1,.int .i64 q.2,.int .i64 0,.int .i64 0]) (hYl:w.heap.size≤Y) (hN:N q=0) (hT:T q=0) (hno:mget q D=none)
  (hm:Mp ekP W' mb (mput q (.pointer (some ⟨Y,0,none⟩)) D)) (hg:W.grownBy W' (some mb)):WM w W' vo out mb (D++[(q,.pointer (some ⟨Y,0,none⟩))]) N T:=by
 rw [mput_none _ hno] at hm
 refine ⟨hm,fun p v hp=>?_,h.row.kept hg ?_,h.mbl,h.be.grown hg h.be.size (fun j e=>by cases e;exact h.mbl)⟩
 ·rcases List.mem_append.1 hp with hp | hp
  ·obtain ⟨b,e,h1,h2⟩:=h.bl p v hp
   exact ⟨b,e,h1,h2.kept hg (fun e=>mp_not_blk h.mp h2 (Option.some.inj e))⟩
  ·rw [List.mem_singleton] at hp
   cases hp
   refine ⟨Y,rfl,hYl,?_⟩
   rw [hN,hT]
   exact hY.kept hg (fun e=>mp_not_blk h.mp hY (Option.some.inj e))
 ·exact .inr (Ne.symm (h.mp.not_row h.row))
theorem ofP_snoc (p:Pp) (a:List Cg) (x:Cg):ofP p (a++[x])=ofP p a++if x.2.1=p then [x] else []:=by
 unfold ofP
 rw [List.filter_append]
 congr 1
 by_cases h:x.2.1=p
 ·rw [if_pos h,List.filter_cons_of_pos (by simpa using h)];rfl
 ·rw [if_neg h,List.filter_cons_of_neg (by simpa using h)];rfl
theorem wn_next (a:List Cg) (x:Cg) (p:Pp):wcN (ofP p (a++[x]))=if p=x.2.1 then wcN (ofP p a)+max 0 x.2.2.1 else wcN (ofP p a):=by
 rw [ofP_snoc,wcN_append]
 by_cases h:x.2.1=p
 ·rw [if_pos h,if_pos h.symm];simp [wcN]
 ·rw [if_neg h,if_neg (fun e=>h e.symm)];simp [wcN]
theorem wt_next (last:Int) (a:List Cg) (x:Cg) (p:Pp):wcT last (ofP p (a++[x]))=if p=x.2.1 then wcT last (ofP p a)+x.2.2.1 * (last-x.1) else wcT last (ofP p a):=by
 rw [ofP_snoc,wcT_append]
 by_cases h:x.2.1=p
 ·rw [if_pos h,if_pos h.symm];simp [wcT]
 ·rw [if_neg h,if_neg (fun e=>h e.symm)];simp [wcT]
theorem ofP_none {p:Pp} {a:List Cg} (h:¬ ∃ x∈a,x.2.1=p):ofP p a=[]:=by
 unfold ofP
 rw [List.filter_eq_nil_iff]
 intro x hx
 have:=fun e=>h ⟨x,hx,e⟩
 simpa using this
theorem wc_bound {last:Int} (hl:0≤last∧last≤100000000):∀ {L:List Cg},(∀ x∈L,(x.2.2.1=1∨x.2.2.1 = -1)∧0≤x.1∧x.1≤100000000)→(0≤wcN L∧wcN L≤L.length)∧-(100000000 * L.length:Int)≤wcT last L∧wcT last L≤100000000 * L.length
 | [],_=>by simp [wcN,wcT]
 | x :: L,h=>by
  have ih:=wc_bound hl (L:=L) fun y hy=>h y (List.mem_cons_of_mem _ hy)
  obtain ⟨h1,h2,h3⟩:=h x (by simp)
  rw [wcN,wcT,List.length_cons]
  push_cast
  rcases h1 with e | e
  ·rw [e,Int.one_mul];omega
  ·rw [e,Int.neg_mul,Int.one_mul];omega
theorem ofP_sub {p:Pp} {a:List Cg}:∀ x∈ofP p a,x∈a:=fun _ hx=>(List.mem_filter.1 hx).1
def wrow (N T:Pp→Int) (x:Pp × Value):We:=(x.1,N x.1,T x.1)
theorem wear_perm {S:Sp} {B:(Th→Int)→Pp→Bool} (hB:SndIs S B) (g:∀ x∈S.ss,∀ key,∀ p∈playsL x key,p∈allFrom 0 S.rs) {l:List Ev} {out:List Cg} (ho:ChgOf B l out) {D:List (Pp × Value)} (hk:∀ p,p∈D.map (·.1) ↔ ∃ x∈out,x.2.1=p) (hnd:(D.map (·.1)).Nodup)
  {m:List We} (hm:m.Perm (D.map (wrow (fun p=>wcN (ofP p out)) (fun p=>wcT (l.getD (l.length-1) ev0).1 (ofP p out))))) (hs:m.Pairwise fun a b=>¬ weLt b a):m=wearL S B l:=by
 have hin:∀ p,p∈D.map (·.1)→p∈allFrom 0 S.rs∧l≠[]:=fun p hp=>by
  obtain ⟨x,hx,rfl⟩:=(hk p).1 hp
  obtain ⟨h1,⟨y,hy,_⟩,_⟩:=chg_all hB g ho hx
  exact ⟨h1,fun e=>by rw [e] at hy;cases hy⟩
 have hnm:(m.map (·.1)).Nodup:=by
  have h1:=(hm.map (·.1))
  rw [List.map_map] at h1
  exact h1.nodup_iff.2 hnd
 have hs2:m.Pairwise weLt:=by
  unfold List.Nodup at hnm
  rw [List.pairwise_map] at hnm
  refine List.Pairwise.imp₂ ?_ hs hnm
  rintro ⟨⟨a1,a2⟩,a3⟩ ⟨⟨b1,b2⟩,b3⟩ h1 h2
  unfold weLt ppLt at *
  simp only at *
  have h3:¬ (a1=b1∧a2=b2):=fun h=>h2 (Prod.ext h.1 h.2)
  omega
 refine wear_one hs2 fun x=>?_
 rw [hm.mem_iff,List.mem_map]
 constructor
 ·rintro ⟨y,hy,rfl⟩
  have hp:y.1∈D.map (·.1):=List.mem_map.2 ⟨y,hy,rfl⟩
  obtain ⟨h1,h2⟩:=hin _ hp
  obtain ⟨h3,h4⟩:=wear_sums ho h2 y.1
  exact ⟨h1,(wear_in ho y.1).1 ((hk y.1).1 hp),h3,h4⟩
 ·rintro ⟨h1,h2,h3,h4⟩
  have hp:=(hk x.1).2 ((wear_in ho x.1).2 h2)
  obtain ⟨_,hl⟩:=hin _ hp
  obtain ⟨h5,h6⟩:=wear_sums ho hl x.1
  obtain ⟨y,hy,e⟩:=List.mem_map.1 hp
  refine ⟨y,hy,?_⟩
  obtain ⟨xp,xn,xt⟩:=x
  simp only at e h3 h4 h5 h6
  unfold wrow
  simp only
  rw [e,h5,h6,h3,h4]
theorem keys_in {D:List (Pp × Value)} {q:Pp} (h:q∈D.map (·.1)):∃ v,mget q D=some v∧(q,v)∈D:=by
 cases e:mget q D with
 | none=>exact absurd h (mget_no.1 e)
 | some v=>exact ⟨v,rfl,mget_mem e⟩
end Go.Proofs.YthhfmppealmblaaGreatDoor
namespace Go.Proofs.YthhfmppealmblaaGreatDoor
open Go.RowKit
set_option maxRecDepth 100000 in
set_option maxHeartbeats 12800000 in
theorem awear_any (v1 v2 v3 v4:Value) (S:Sp) (ok:SpOk S) (fp:Nat→Value) (l:List Ev) (vl:Value) (B:(Th→Int)→Pp→Bool) (hB:SndIs S B) (w:World) (t:Tabs w) (hsp:SpRd w v1 v2 v3 v4 fp S) (hlv:ARd w vl 5 (l.map evC)) (hl:l.length≤50000) :
  Calls Tryz.prog 26 #[.agg #[v1,v2,v3,v4],vl] w (WrE S B l w):=by
 have hmm:=@run_makeMap Tryz.prog
 obtain ⟨i0,hi0,hz0,hz1,hz2⟩:=info_parts we_info
 obtain ⟨al,cv,evl⟩:=hlv.evForm
 subst evl
 have hal:=(Below.refl _ w).alloc (Nat.le_refl w.heap.size) (.cells #[v1,v2,v3,v4] 27)
 have hk:=Blk.new w 27 #[v1,v2,v3,v4]
 have hal2:Below w.heap.size w ((w.alloc (.cells #[v1,v2,v3,v4] 27)).alloc (.cells #[.slice al l.length cv] 28)):=hal.alloc (by simp) _
 have hk2:=hk.alloc (.cells #[.slice al l.length cv] 28)
 have hk3:=Blk.new (w.alloc (.cells #[v1,v2,v3,v4] 27)) 28 #[.slice al l.length cv]
 rw [World.size_alloc] at hk3
 have HCK:=Lib.hid (acheck_any v1 v2 v3 v4 S ok fp w.heap.size _ [(.slice al l.length cv,l)] _ (t.below hal2) (hsp.later hal2) hk2 (by simp) (fun x hx=>by rw [List.mem_singleton.1 hx];exact Nat.le_trans hl (by omega)) (evsR_one hk3 (hlv.later hal2)))
 rw [show ([(.slice al l.length cv,l)]:List (Value × List Ev)).map (·.2)=[l] from rfl,chkE_one] at HCK
 have HB0:=Lib.hid hal2
 have B0:=Lib.hid hk2
 have HSP:=Lib.hid hsp
 have HLV:=Lib.hid hlv
 clear hsp hlv ok t hal hk hal2 hk2 hk3
 go_enter Tryz.func26,Tryz.ntmps26
 go_wp2_with fail
 refine (HCK.out).mono ?_
 rintro e W ⟨rfl,hb⟩
 have HB1:=Lib.hid (below_step HB0.out hb)
 have B1:=Lib.hid (B0.out.below hb)
 clear HCK hb B0 HB0
 by_cases hE:audE S l=0
 case neg =>
  have HN:=Lib.hid (wearV_ne S B hE)
  obtain ⟨e0,he0⟩:∃ e0,audE S l=e0:=⟨_,rfl⟩
  have HE:=Lib.hid he0
  rw [he0] at hE ⊢
  have q1:(e0==0)=false:=by simpa using hE
  clear he0 hE
  go_wp2
  go_ret2
  exact ⟨_,by rw [HE.out];rfl,by rw [HN.out];exact World.ownsRow_nil _ _ _ _,HB1.out⟩
 have HE:=Lib.hid hE
 rw [hE]
 obtain ⟨hck,hrk⟩:=audE_parts hE
 have hsg:=spGood hck
 have HAS:=Lib.hid (audE_ok hE)
 have HGP:=Lib.hid (show ∀ x∈S.ss,∀ key,∀ p∈playsL x key,p∈allFrom 0 S.rs from fun x hx key=>hsg.plays hx)
 have HGD:=Lib.hid hsg
 have HSB:=Lib.hid hB
 have hal:Below w.heap.size w (W.alloc (.map #[] 0)):=HB1.out.alloc HB1.out.size _
 have HM0:=Lib.hid (show Mp ekP (W.alloc (.map #[] 0)) W.heap.size ([]:List (Pp × Value)) from Mp.made W)
 have HCH:=Lib.hid (changes_any v1 v2 v3 v4 S hck fp w.heap.size B hB l (.slice al l.length cv) hrk _ (HSP.out.later hal) (B1.out.alloc _) (HLV.out.later hal))
 have HMB:=Lib.hid HB1.out.size
 have HWV:=Lib.hid (show wearV S B l=wearL S B l from if_pos hE)
 have HAL:=Lib.hid hal
 obtain ⟨MB,hMB⟩:∃ MB,W.heap.size=MB:=⟨_,rfl⟩
 rw [hMB] at HM0 HMB
 clear hE hck hrk hsg hB hal B1 HB1 HSP
 go_wp2_with fail
 refine (HCH.out).mono ?_
 rintro e W2 ⟨vo,out,rfl,hro,hcg,hol,hb2⟩
 obtain ⟨ao,co,evo⟩:=row_formN hro
 subst evo
 have HCG:=Lib.hid hcg
 have HOL:=Lib.hid hol
 have HI0:=Lib.hid (show WM w W2 (.slice ao out.length co) out MB [] (fun p=>wcN (ofP p (out.take 0))) (fun p=>wcT (l.getD (l.length-1) ev0).1 (ofP p (out.take 0))) from ⟨HM0.out.below hb2,fun p v h=>(by cases h),row_base hro HAL.out.size,HMB.out,below_step HAL.out hb2⟩)
 have HK0:=Lib.hid (show ∀ p,p∈([]:List (Pp × Value)).map (·.1) ↔ ∃ x∈out.take 0,x.2.1=p by simp)
 have HBD:=Lib.hid (show ∀ x∈out,(x.2.2.1=1∨x.2.2.1 = -1)∧0≤x.1∧x.1≤100000000∧0<l.length from fun x hx=>by
  obtain ⟨_,⟨y,hy,e⟩,_,h4⟩:=chg_all HSB.out HGP.out hcg hx
  have:=HAS.out.nonneg hy
  rw [e] at this
  exact ⟨h4,this.1,this.2,List.length_pos_of_mem hy⟩)
 clear hro hcg hb2 HCH HM0 HAL hMB HMB
 have hol2:out.length≤400000000:=by omega
 go_wp2
 go_loopw [25] (fun x wr=>∃ (i:Nat) (D:List (Pp × Value)),i≤out.length∧x = .int .i64 i∧RowKit.Hid (WM w wr (.slice ao out.length co) out MB D (fun p=>wcN (ofP p (out.take i))) (fun p=>wcT (l.getD (l.length-1) ev0).1 (ofP p (out.take i))))∧RowKit.Hid (∀ p,p∈D.map (·.1) ↔ ∃ x∈out.take i,x.2.1=p)) (fun x _=>out.length-(intOf x).toNat)
 case atStart=>exact ⟨0,[],Nat.zero_le _,rfl,HI0,HK0⟩
 clear HI0 HK0
 obtain ⟨i,D,hi,rfl,hM,hK⟩:=hrel
 by_cases hil:i<out.length
 ·have hi2:(i:Int)<(out.length:Int):=by omega
  obtain ⟨b,o,c',ev,hbl,k0,k1,k2,k3,k4⟩:=(ARd.of_cgs hM.out.row).cgAt i hil
  cases ev
  have HTK:=Lib.hid (show out.take (i+1)=out.take i++[out[i]] from List.take_succ_eq_append_getElem hil)
  have hbd:=HBD.out _ (List.getElem_mem hil)
  have HNB:=Lib.hid (fun (q:Pp) (hq:0≤(l.getD (l.length-1) ev0).1∧(l.getD (l.length-1) ev0).1≤100000000)=>wc_bound hq (L:=ofP q (out.take i)) (fun x hx=>by
   obtain ⟨h1,h2,h3,_⟩:=HBD.out x (List.mem_of_mem_take (ofP_sub x hx))
   exact ⟨h1,h2,h3⟩))
  have HOF:=Lib.hid (fun (q:Pp)=>show (ofP q (out.take i)).length≤400000000 by
   have h1:=List.length_filter_le (fun x:Cg=>decide (x.2.1=q)) (out.take i)
   rw [List.length_take] at h1
   unfold ofP
   omega)
  obtain ⟨x,hx⟩:∃ x,out[i]=x:=⟨_,rfl⟩
  rw [hx] at k0 k1 k2 k3 k4 HTK hbd
  obtain ⟨tk,⟨q1,q2⟩,sd,cl⟩:=x
  dsimp only at k0 k1 k2 k3 k4 hbd
  obtain ⟨hsd,ht0,ht1,hl0⟩:=hbd
  have hal:Below wr.heap.size wr (wr.alloc (.cells #[.int .i64 tk,.int .i64 q1,.int .i64 q2,.int .i64 sd,.int .i64 cl] 91)):=(Below.refl _ wr).alloc (Nat.le_refl _) _
  have HX:=Lib.hid (Blk.new wr 91 #[.int .i64 tk,.int .i64 q1,.int .i64 q2,.int .i64 sd,.int .i64 cl])
  have HM1:=Lib.hid (hM.out.later hal)
  go_upto_region 8 with fail
  obtain ⟨X,hX⟩:∃ X,wr.heap.size=X:=⟨_,rfl⟩
  rw [hX] at HX ⊢
  generalize wr.alloc (.cells #[.int .i64 tk,.int .i64 q1,.int .i64 q2,.int .i64 sd,.int .i64 cl] 91)=W3 at *
  clear k0 k1 k2 k3 k4 hX hal hM hbl hx
  have x1:W3.cell? ⟨X,1,none⟩=some (.int .i64 q1):=HX.out.cell 1
  have x2:W3.cell? ⟨X,2,none⟩=some (.int .i64 q2):=HX.out.cell 2
  have hmp:=HM1.out.mp
  by_cases hq:(q1,q2)∈D.map (·.1)
  ·obtain ⟨v,hg,hqD⟩:=keys_in hq
   obtain ⟨Y,rfl,hYl,hYb⟩:=HM1.out.bl _ _ hqD
   have hget:(mget (q1,q2) D).getD (.pointer none) = .pointer (some ⟨Y,0,none⟩):=by rw [hg];rfl
   have HKN:=Lib.hid (show ∀ p,p∈D.map (·.1) ↔ ∃ x∈out.take (i+1),x.2.1=p from fun p=>by
    rw [HTK.out,hK.out p]
    constructor
    ·rintro ⟨x,hx,e⟩
     exact ⟨x,by simp [hx],e⟩
    ·rintro ⟨x,hx,e⟩
     rcases List.mem_append.1 hx with hx | hx
     ·exact ⟨x,hx,e⟩
     ·rw [List.mem_singleton] at hx
      subst hx
      rw [← e]
      exact (hK.out _).1 hq)
   have HQD:=Lib.hid hqD
   have HYB:=Lib.hid hYb
   clear hg hqD hK hq hYb
   go_upto_region 12 with (at_lookup;refine wpList_lookup_mp _ rfl _ _ 121 rfl 122 pp_keys Tryz.underlying121 (Tryz.zeroValue122 _) rfl hmp (q1,q2) rfl ?_;rw [hget])
   have HMT:=Lib.hid HM1.out
   have HXT:=Lib.hid HX.out
   clear hget hmp x1 x2 HM1 HX
   have hn0:l.length-1<l.length:=by omega
   obtain ⟨bl,ol,cl',evl,hbl2,z0,_⟩:=(HLV.out.later HMT.out.be).evAt (l.length-1) hn0
   cases evl
   have hLb:=HAS.out.nonneg (List.getElem_mem hn0)
   have hlast:(l.getD (l.length-1) ev0).1=l[l.length-1].1:=by rw [getD_at hn0]
   obtain ⟨LT,hLT⟩:∃ z,l[l.length-1].1=z:=⟨_,rfl⟩
   rw [hLT] at z0 hLb hlast
   have HLT:=Lib.hid hlast
   have hbn:=HNB.out (q1,q2) (by rw [hlast];exact hLb)
   have hof:=HOF.out (q1,q2)
   obtain ⟨wn,hwn⟩:∃ z,wcN (ofP (q1,q2) (out.take i))=z:=⟨_,rfl⟩
   obtain ⟨wt,hwt⟩:∃ z,wcT (l.getD (l.length-1) ev0).1 (ofP (q1,q2) (out.take i))=z:=⟨_,rfl⟩
   have hyb:=HYB.out
   dsimp only at hyb
   rw [hwn,hwt] at hyb
   rw [hwn,hwt] at hbn
   have HWN:=Lib.hid hwn
   have HWT:=Lib.hid hwt
   obtain ⟨rs,hrs⟩:∃ z,LT-tk=z:=⟨_,rfl⟩
   have hsr : -100000000≤sd * rs∧sd * rs≤100000000:=by rcases hsd with rfl | rfl <;> omega
   obtain ⟨sr,hsrn⟩:∃ z,sd * rs=z:=⟨_,rfl⟩
   have HSR:=Lib.hid (show sd * (LT-tk)=sr by rw [hrs,hsrn])
   obtain ⟨nl,hnl⟩:∃ n,l.length-1=n:=⟨_,rfl⟩
   rw [hnl] at z0
   have f0:(l.length:Int)-1=(nl:Int):=by omega
   have f1:(nl:Int)<(l.length:Int):=by omega
   have f2:IntKind.i64.wrap (nl:Int)=(nl:Int):=IntWalk.i64_in _ (by omega)
   have x0:=HXT.out.cell 0
   simp only [List.getElem?_toArray,List.getElem?_cons_zero] at x0
   go_region
   have HM6:=Lib.hid HMT.out.drew
   have HX6:=Lib.hid (Blk.drew' HXT.out)
   have HY6:=Lib.hid (Blk.drew' hyb)
   generalize W3.drew=W6 at *
   clear x0 z0 HMT HXT hyb HYB f0 f1 f2 hrs hnl hwn hwt hbl2 hlast
   have x3:=HX6.out.cell 3
   have y3:=HY6.out.cell 3
   have g3:=HY6.out.frozen 3
   simp only [List.getElem?_toArray,List.getElem?_cons_zero,List.getElem?_cons_succ] at x3 y3
   have e1:IntKind.i64.wrap sr=sr:=IntWalk.i64_in _ (by omega)
   have e2:IntKind.i64.wrap (wt+sr)=wt+sr:=IntWalk.i64_in _ (by omega)
   have HM7:=Lib.hid (HM6.out.set 3 HQD.out (.int .i64 (wt+sr)) (N':=fun p=>wcN (ofP p (out.take i))) (T':=fun p=>wcT (l.getD (l.length-1) ev0).1 (ofP p (out.take (i+1)))) (fun p _=>rfl) (fun p hp=>by
    show _=wcT _ (ofP p (out.take (i+1)))
    rw [HTK.out,wt_next,if_neg hp]) (by
    show #[_,_,_,Value.int .i64 (wt+sr)]=_
    rw [HTK.out,wt_next,if_pos rfl,HWT.out,HLT.out]
    simp only
    rw [HSR.out]))
   have HX7:=Lib.hid (HX6.out.other ⟨Y,3,none⟩ (.int .i64 (wt+sr)) (HX6.out.ne HY6.out (by decide)))
   have HY7:=Lib.hid (show Blk (W6.setCell ⟨Y,3,none⟩ (.int .i64 (wt+sr))) Y 64 #[.int .i64 q1,.int .i64 q2,.int .i64 wn,.int .i64 (wt+sr)] from HY6.out.set 3 _)
   clear HM6 HX6 HY6
   go_upto_region 13 with fail
   go_region
   have HM8:=Lib.hid HM7.out.drew
   have HX8:=Lib.hid (Blk.drew' HX7.out)
   have HY8:=Lib.hid (Blk.drew' HY7.out)
   generalize (W6.setCell ⟨Y,3,none⟩ (.int .i64 (wt+sr))).drew=W8 at *
   clear x3 y3 g3 e1 e2 HM7 HX7 HY7
   obtain ⟨mx,hmx⟩:∃ z,max 0 sd=z:=⟨_,rfl⟩
   have hm01:0≤mx∧mx≤1:=by omega
   have x3:=HX8.out.cell 3
   have y2:=HY8.out.cell 2
   have g2:=HY8.out.frozen 2
   simp only [List.getElem?_toArray,List.getElem?_cons_zero,List.getElem?_cons_succ] at x3 y2
   have e2:IntKind.i64.wrap (wn+mx)=wn+mx:=IntWalk.i64_in _ (by omega)
   have HM9:=Lib.hid (WM.drew (HM8.out.set 2 HQD.out (.int .i64 (wn+mx)) (N':=fun p=>wcN (ofP p (out.take (i+1)))) (T':=fun p=>wcT (l.getD (l.length-1) ev0).1 (ofP p (out.take (i+1)))) (fun p hp=>by
    show _=wcN (ofP p (out.take (i+1)))
    rw [HTK.out,wn_next,if_neg hp]) (fun p _=>rfl) (by
    show #[_,_,Value.int .i64 (wn+mx),_]=_
    rw [HTK.out,wn_next,if_pos rfl,HWN.out]
    simp only
    rw [hmx])))
   clear HM8 HX8 HY8
   go_upto_region 14 with fail
   go_region
   go_wp2
   go_roundw
   case rel=>exact ⟨i+1,_,by omega,by go_num,HM9,HKN⟩
   case measure=>simp [intOf];omega
  ·have hno:mget (q1,q2) D=none:=mget_no.2 hq
   have hget:(mget (q1,q2) D).getD (.pointer none) = .pointer none:=by rw [hno];rfl
   have hal5:Below W3.heap.size W3 (W3.alloc (.cells #[.int .i64 q1,.int .i64 q2,.int .i64 0,.int .i64 0] 64)):=(Below.refl _ W3).alloc (Nat.le_refl _) _
   have HX5:=Lib.hid (HX.out.below hal5)
   have HM5:=Lib.hid (HM1.out.later hal5)
   have HY5:=Lib.hid (Blk.new W3 64 #[.int .i64 q1,.int .i64 q2,.int .i64 0,.int .i64 0])
   have hYl:=HM1.out.be.size
   go_upto_region 11 with (at_lookup;refine wpList_lookup_mp _ rfl _ _ 121 rfl 122 pp_keys Tryz.underlying121 (Tryz.zeroValue122 _) rfl hmp (q1,q2) rfl ?_;rw [hget])
   obtain ⟨Y,hY⟩:∃ Y,W3.heap.size=Y:=⟨_,rfl⟩
   rw [hY] at HY5 hYl ⊢
   generalize W3.alloc (.cells #[.int .i64 q1,.int .i64 q2,.int .i64 0,.int .i64 0] 64)=W4 at *
   clear hY hal5 HX HM1 hmp x1 x2 hget
   have x1:W4.cell? ⟨X,1,none⟩=some (.int .i64 q1):=HX5.out.cell 1
   have x2:W4.cell? ⟨X,2,none⟩=some (.int .i64 q2):=HX5.out.cell 2
   have hmp:=HM5.out.mp
   have HNO:=Lib.hid hno
   have hk0:¬ ∃ x∈out.take i,x.2.1=(q1,q2):=fun h=>hq ((hK.out _).2 h)
   have HOE:=Lib.hid (ofP_none hk0)
   have HKN0:=Lib.hid (show ∀ (v:Value) (p:Pp),p∈(D++[((q1,q2),v)]).map (·.1) ↔ ∃ x∈out.take (i+1),x.2.1=p from fun v p=>by
    rw [HTK.out,List.map_append,List.mem_append,hK.out p]
    simp only [List.map_cons,List.map_nil,List.mem_singleton]
    constructor
    ·rintro (⟨x,hx,e⟩ | e)
     ·exact ⟨x,by simp [hx],e⟩
     ·exact ⟨(tk,(q1,q2),sd,cl),by simp,e.symm⟩
    ·rintro ⟨x,hx,e⟩
     rcases List.mem_append.1 hx with hx | hx
     ·exact .inl ⟨x,hx,e⟩
     ·rw [List.mem_singleton] at hx
      subst hx
      exact .inr e.symm)
   clear hno hk0 hq hK
   go_upto_region 12 with (at_mapUpdate;refine wpList_update_mp _ rfl _ _ _ 121 rfl 122 pp_keys Tryz.underlying121 rfl hmp (q1,q2) (.pointer (some ⟨Y,0,none⟩)) rfl rfl ?_;intro W5 hm5 hg5 hs5)
   try go_frame
   have HMT:=Lib.hid (HM5.out.put HY5.out hYl (by show wcN _=0;rw [HOE.out];rfl) (by show wcT _ _=0;rw [HOE.out];rfl) HNO.out hm5 hg5)
   have HXT:=Lib.hid (HX5.out.kept hg5 (fun e=>mp_not_blk HM5.out.mp HX5.out (Option.some.inj e)))
   have HQD:=Lib.hid (show ((q1,q2),Value.pointer (some ⟨Y,0,none⟩))∈D++[((q1,q2),Value.pointer (some ⟨Y,0,none⟩))] by simp)
   have HKN:=Lib.hid (HKN0.out (.pointer (some ⟨Y,0,none⟩)))
   obtain ⟨Y',ey,_,hYb⟩:=HMT.out.bl _ _ HQD.out
   obtain rfl:Y=Y':=by cases ey;rfl
   have HYB:=Lib.hid hYb
   clear hm5 hg5 hs5 ey hYb HM5 HX5 HY5 x1 x2 hmp HNO HKN0 HOE
   have hn0:l.length-1<l.length:=by omega
   obtain ⟨bl,ol,cl',evl,hbl2,z0,_⟩:=(HLV.out.later HMT.out.be).evAt (l.length-1) hn0
   cases evl
   have hLb:=HAS.out.nonneg (List.getElem_mem hn0)
   have hlast:(l.getD (l.length-1) ev0).1=l[l.length-1].1:=by rw [getD_at hn0]
   obtain ⟨LT,hLT⟩:∃ z,l[l.length-1].1=z:=⟨_,rfl⟩
   rw [hLT] at z0 hLb hlast
   have HLT:=Lib.hid hlast
   have hbn:=HNB.out (q1,q2) (by rw [hlast];exact hLb)
   have hof:=HOF.out (q1,q2)
   obtain ⟨wn,hwn⟩:∃ z,wcN (ofP (q1,q2) (out.take i))=z:=⟨_,rfl⟩
   obtain ⟨wt,hwt⟩:∃ z,wcT (l.getD (l.length-1) ev0).1 (ofP (q1,q2) (out.take i))=z:=⟨_,rfl⟩
   have hyb:=HYB.out
   dsimp only at hyb
   rw [hwn,hwt] at hyb
   rw [hwn,hwt] at hbn
   have HWN:=Lib.hid hwn
   have HWT:=Lib.hid hwt
   obtain ⟨rs,hrs⟩:∃ z,LT-tk=z:=⟨_,rfl⟩
   have hsr : -100000000≤sd * rs∧sd * rs≤100000000:=by rcases hsd with rfl | rfl <;> omega
   obtain ⟨sr,hsrn⟩:∃ z,sd * rs=z:=⟨_,rfl⟩
   have HSR:=Lib.hid (show sd * (LT-tk)=sr by rw [hrs,hsrn])
   obtain ⟨nl,hnl⟩:∃ n,l.length-1=n:=⟨_,rfl⟩
   rw [hnl] at z0
   have f0:(l.length:Int)-1=(nl:Int):=by omega
   have f1:(nl:Int)<(l.length:Int):=by omega
   have f2:IntKind.i64.wrap (nl:Int)=(nl:Int):=IntWalk.i64_in _ (by omega)
   have x0:=HXT.out.cell 0
   simp only [List.getElem?_toArray,List.getElem?_cons_zero] at x0
   go_region
   have HM6:=Lib.hid HMT.out.drew
   have HX6:=Lib.hid (Blk.drew' HXT.out)
   have HY6:=Lib.hid (Blk.drew' hyb)
   generalize W5.drew=W6 at *
   clear x0 z0 HMT HXT hyb HYB f0 f1 f2 hrs hnl hwn hwt hbl2 hlast
   have x3:=HX6.out.cell 3
   have y3:=HY6.out.cell 3
   have g3:=HY6.out.frozen 3
   simp only [List.getElem?_toArray,List.getElem?_cons_zero,List.getElem?_cons_succ] at x3 y3
   have e1:IntKind.i64.wrap sr=sr:=IntWalk.i64_in _ (by omega)
   have e2:IntKind.i64.wrap (wt+sr)=wt+sr:=IntWalk.i64_in _ (by omega)
   have HM7:=Lib.hid (HM6.out.set 3 HQD.out (.int .i64 (wt+sr)) (N':=fun p=>wcN (ofP p (out.take i))) (T':=fun p=>wcT (l.getD (l.length-1) ev0).1 (ofP p (out.take (i+1)))) (fun p _=>rfl) (fun p hp=>by
    show _=wcT _ (ofP p (out.take (i+1)))
    rw [HTK.out,wt_next,if_neg hp]) (by
    show #[_,_,_,Value.int .i64 (wt+sr)]=_
    rw [HTK.out,wt_next,if_pos rfl,HWT.out,HLT.out]
    simp only
    rw [HSR.out]))
   have HX7:=Lib.hid (HX6.out.other ⟨Y,3,none⟩ (.int .i64 (wt+sr)) (HX6.out.ne HY6.out (by decide)))
   have HY7:=Lib.hid (show Blk (W6.setCell ⟨Y,3,none⟩ (.int .i64 (wt+sr))) Y 64 #[.int .i64 q1,.int .i64 q2,.int .i64 wn,.int .i64 (wt+sr)] from HY6.out.set 3 _)
   clear HM6 HX6 HY6
   go_upto_region 13 with fail
   go_region
   have HM8:=Lib.hid HM7.out.drew
   have HX8:=Lib.hid (Blk.drew' HX7.out)
   have HY8:=Lib.hid (Blk.drew' HY7.out)
   generalize (W6.setCell ⟨Y,3,none⟩ (.int .i64 (wt+sr))).drew=W8 at *
   clear x3 y3 g3 e1 e2 HM7 HX7 HY7
   obtain ⟨mx,hmx⟩:∃ z,max 0 sd=z:=⟨_,rfl⟩
   have hm01:0≤mx∧mx≤1:=by omega
   have x3:=HX8.out.cell 3
   have y2:=HY8.out.cell 2
   have g2:=HY8.out.frozen 2
   simp only [List.getElem?_toArray,List.getElem?_cons_zero,List.getElem?_cons_succ] at x3 y2
   have e2:IntKind.i64.wrap (wn+mx)=wn+mx:=IntWalk.i64_in _ (by omega)
   have HM9:=Lib.hid (WM.drew (HM8.out.set 2 HQD.out (.int .i64 (wn+mx)) (N':=fun p=>wcN (ofP p (out.take (i+1)))) (T':=fun p=>wcT (l.getD (l.length-1) ev0).1 (ofP p (out.take (i+1)))) (fun p hp=>by
    show _=wcN (ofP p (out.take (i+1)))
    rw [HTK.out,wn_next,if_neg hp]) (fun p _=>rfl) (by
    show #[_,_,Value.int .i64 (wn+mx),_]=_
    rw [HTK.out,wn_next,if_pos rfl,HWN.out]
    simp only
    rw [hmx])))
   clear HM8 HX8 HY8
   go_upto_region 14 with fail
   go_region
   go_wp2
   go_roundw
   case rel=>exact ⟨i+1,_,by omega,by go_num,HM9,HKN⟩
   case measure=>simp [intOf];omega
 rename World=>W1
 have hie:i=out.length:=by omega
 have hki:¬ ((i:Int)<(out.length:Int)):=by omega
 have hM2:=hM.out
 have hK2:=hK.out
 rw [hie,List.take_length] at hM2 hK2
 have HM:=Lib.hid hM2
 have HK:=Lib.hid hK2
 have hnd:=hM2.mp.nodup
 have hall:=allFrom_len HGD.out.r 0
 have hDl:D.length≤4000:=by
  have h1:(D.map (·.1)).length≤(allFrom 0 S.rs).length:=nodup_lenP hnd (fun p hp=>by
   obtain ⟨x,hx,rfl⟩:=(hK2 p).1 hp
   exact (chg_all HSB.out HGP.out HCG.out hx).1)
  rw [List.length_map] at h1
  have:=HGD.out.rs
  omega
 have HND:=Lib.hid hnd
 have hmp:=hM2.mp
 have hsz1:=hM2.be.size
 clear hM hM2 hK hK2 hie hnd hall hi
 obtain ⟨N,hN⟩:∃ N:Pp→Int,(fun p=>wcN (ofP p out))=N:=⟨_,rfl⟩
 obtain ⟨T,hT⟩:∃ T:Pp→Int,(fun p=>wcT (l.getD (l.length-1) ev0).1 (ofP p out))=T:=⟨_,rfl⟩
 rw [hN,hT] at HM
 have HNT:=Lib.hid (show ∀ m:List We,m.Perm (D.map (wrow N T))→m.Pairwise (fun a b=>¬ weLt b a)→m=wearL S B l from fun m hm hs=>by
  rw [← hN,← hT] at hm
  exact wear_perm HSB.out HGP.out HCG.out HK.out HND.out hm hs)
 clear hN hT HK HBD
 go_wp2_with (at_range;refine wpList_range_mp _ rfl _ 121 rfl 45 122 Tryz.underlying121 rfl hmp ?_;intro w5 hrg5 hg5 hs5)
 try go_frame
 have hst:RowKit.Hid (w5.ownsRow (W1.heap.size+1) 64 4 (.slice none 0 0) (([]:List (Pp × Value)).map (wrow N T)).length (weCs (([]:List (Pp × Value)).map (wrow N T)))):=Lib.hid (World.ownsRow_nil _ _ _ _)
 have hrefl:RowKit.Hid (Below W1.heap.size W1 w5):=Lib.hid ⟨hg5.os,hg5.tape,hg5.output,hg5.size,fun k hk=>hg5.block k hk (by simp)⟩
 have HRG5:=Lib.hid hrg5
 clear hg5 hrg5 hmp hs5
 go_loopw [12] (fun v wi=>∃ done left:List (Pp × Value),RowKit.Hid (Rg ekP wi MB W1.heap.size D left)∧RowKit.Hid ((done++left).Perm D)∧RowKit.Hid (wi.ownsRow (W1.heap.size+1) 64 4 v (done.map (wrow N T)).length (weCs (done.map (wrow N T))))∧RowKit.Hid (Below W1.heap.size W1 wi)) (fun _ wi=>wi.rangeLeft MB W1.heap.size)
 case atStart=>exact ⟨[],D,HRG5,Lib.hid (List.Perm.refl _),hst,hrefl⟩
 clear HRG5 hst hrefl
 obtain ⟨done,left,hrg,hperm,hout,hB⟩:=hrel
 have hdl:done.length≤4000:=by
  have:=hperm.out.length_eq
  rw [List.length_append] at this
  omega
 have hszB:=hB.out.size
 go_wp2_with (at_next;refine wpList_next_mp _ rfl _ rfl rfl hrg.out ?_ ?_)
 ·intro hleft
  have hp:=hperm.out
  rw [hleft,List.append_nil] at hp
  have HPM:=Lib.hid (hp.map (wrow N T))
  have HSO:=Lib.hid (sortW_any (done.map (wrow N T)) (by rw [List.length_map];omega) (W1.heap.size+1) u12 wr hout.out)
  have HGE:=Lib.hid (fun j (e:u12.ownBlock=some j)=>row_ge hout.out e)
  clear hp hleft hperm hrg hout
  go_wp2_with fail
  refine (HSO.out).mono ?_
  rintro e w8 ⟨rfl,m,hm1,hm2,hm3,hg8⟩
  have hme:=HNT.out m (hm1.trans HPM.out) hm2
  subst hme
  have hb8:Below W1.heap.size W1 w8:=hB.out.grown hg8 hB.out.size (fun j e=>Nat.le_of_succ_le (HGE.out j e))
  have HO8:=Lib.hid (row_base hm3 (Nat.le_succ_of_le hsz1))
  have HB8:=Lib.hid (below_step HM.out.be hb8)
  clear hm1 hm2 hm3 hg8 hb8 HSO
  go_wp2
  go_ret2
  exact ⟨u12,by rw [HE.out];rfl,by rw [HWV.out];exact HO8.out,HB8.out⟩
 ·intro x1 x2 v w6 hin hrg6 hg6 hs6 hen
  have hinD:=hrg.out.sub _ hin
  obtain ⟨Y,rfl,hYl,hYb⟩:=HM.out.bl _ _ hinD
  have HPS:=Lib.hid (strike_perm hrg.out.nodup hin hperm.out)
  have HLT:=Lib.hid (strike_len hin)
  have HLE:=Lib.hid hrg.out.left_eq
  have hB6:Below W1.heap.size W1 w6:=hB.out.grown hg6 hB.out.size (fun j e=>by cases e;exact Nat.le_refl _)
  have HY6:=Lib.hid (hYb.below hB6)
  have HO6:=Lib.hid (hout.out.kept hg6 (.inr (Ne.symm (hrg.out.row hout.out).2)))
  have HR6:=Lib.hid hrg6
  have HB6:=Lib.hid hB6
  have hsz6:=hB6.size
  obtain ⟨a,ha⟩:∃ z,N (x1,x2)=z:=⟨_,rfl⟩
  obtain ⟨c,hc⟩:∃ z,T (x1,x2)=z:=⟨_,rfl⟩
  rw [ha,hc] at HY6
  have HRW:=Lib.hid (show ∀ v:Value,(done++[((x1,x2),v)]).map (wrow N T)=done.map (wrow N T)++[((x1,x2),a,c)] from fun v=>by
   rw [List.map_append]
   unfold wrow
   simp only [List.map_cons,List.map_nil,ha,hc])
  clear hin hinD hrg hperm hout hB hg6 hs6 hrg6 hB6 hYb ha hc
  simp only [ekP] at hen
  have y0:=HY6.out.cell 0
  have y1:=HY6.out.cell 1
  have y2:=HY6.out.cell 2
  have y3:=HY6.out.cell 3
  simp only [List.getElem?_toArray,List.getElem?_cons_zero,List.getElem?_cons_succ] at y0 y1 y2 y3
  obtain ⟨L,hL⟩:∃ L,done.map (wrow N T)=L:=⟨_,rfl⟩
  have hLl:L.length≤4000:=by rw [← hL,List.length_map];exact hdl
  rw [hL] at HO6 HRW
  clear hL
  try go_frame
  go_wp2_with (at_builtin;refine wpList_append_lies _ rfl _ _ 60 rfl (W1.heap.size+1) 64 i0 _ 4 32 Tryz.underlying60 hi0 hz0 hz1 hz2 rfl (by omega) _ _ _ rfl (HO6.out.alloc _) ⟨w6.heap.size,0,none⟩ 1 1 [.int .i64 x1,.int .i64 x2,.int .i64 a,.int .i64 c] rfl rfl (World.news_of_block (cs:=#[.int .i64 x1,.int .i64 x2,.int .i64 a,.int .i64 c]) (t:=64) (fr:=(0,0)) (heap_alloc_new w6 _)) (by simp [Value.oneCell']) (by omega) (by unfold maxLen;omega) (by omega) (by simp;omega) (w6.heap.size+1) (by simp) ?_;intro gg cap w8 hown8 hgrow hat8 hlt8)
  have HQ:=Lib.hid (wes_step (l:=L) (p:=(x1,x2)) (a:=a) (b:=c) hown8 rfl)
  have HB8:RowKit.Hid (Below W1.heap.size W1 w8):=Lib.hid ((HB6.out.alloc HB6.out.size _).grown hgrow (by have:=HB6.out.size;simp;omega) (fun j e=>Nat.le_of_succ_le (row_ge HO6.out e)))
  have hr7:=HR6.out.below ((Below.refl _ w6).alloc (Nat.le_refl _) (.cells #[.int .i64 x1,.int .i64 x2,.int .i64 a,.int .i64 c] 64))
  have HG8:=Lib.hid (hr7.kept hgrow (hr7.row (HO6.out.alloc _)).1 (hr7.row (HO6.out.alloc _)).2)
  clear hown8 hgrow hat8 hlt8 hr7
  go_wp2
  refine ⟨⟨done++[((x1,x2),.pointer (some ⟨Y,0,none⟩))],_,HG8,HPS,by rw [HRW.out];simpa only [List.length_append] using HQ,HB8⟩,?_⟩
  rw [HG8.out.left_eq,HLE.out]
  exact HLT.out
end Go.Proofs.YthhfmppealmblaaGreatDoor
