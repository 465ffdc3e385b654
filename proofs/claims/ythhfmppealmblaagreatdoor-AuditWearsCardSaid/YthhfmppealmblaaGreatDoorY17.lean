/-
  A part of the proof: AK4, CM.
-/
import Derived.Test.YthhfmppealmblaaGreatDoorY12
import Derived.Test.YthhfmppealmblaaGreatDoorY16
namespace Go.Proofs.YthhfmppealmblaaGreatDoor
open Go.RowKit
theorem audE_parts {S:Sp} {l:List Ev} (h:audE S l=0):(checkP S).2=0∧(recE S l).2=0:=by
 unfold audE at h
 split at h
 ·rename_i q
  split at h
  ·rename_i q2
   exact ⟨q,q2⟩
  ·cases h
 ·rename_i q
  exact absurd h q
end Go.Proofs.YthhfmppealmblaaGreatDoor
namespace Go.Proofs.YthhfmppealmblaaGreatDoor
open Go.RowKit
theorem flatMap_take {cls:List Cl} {i:Nat} (h:i<cls.length):(cls.take (i+1)).flatMap clCg=(cls.take i).flatMap clCg++clCg cls[i]:=by
 rw [List.take_succ_eq_append_getElem h,List.flatMap_append,List.flatMap_cons,List.flatMap_nil,List.append_nil]
theorem clCg_one {p:Pp} {a b:Int} (h:b<0):clCg (p,a,b)=[(a,p,0,1)]:=by unfold clCg;rw [if_neg (by simp only;omega)]
theorem clCg_two {p:Pp} {a b:Int} (h:0≤b):clCg (p,a,b)=[(a,p,0,1),(b,p,0,-1)]:=by unfold clCg;rw [if_pos (by exact h)]
theorem clCg_len (c:Cl):(clCg c).length≤2:=by unfold clCg;split <;> simp
theorem clCgs_len:∀ cls:List Cl,(cls.flatMap clCg).length≤2 * cls.length
 | []=>Nat.zero_le _
 | c :: cls=>by
  rw [List.flatMap_cons,List.length_append,List.length_cons]
  have:=clCg_len c
  have:=clCgs_len cls
  omega
theorem clCg_small {cls:List Cl} {x:Cg} (h:x∈cls.flatMap clCg):x.2.2.1=0∧(x.2.2.2=1∨x.2.2.2 = -1):=by
 obtain ⟨c,_,hx⟩:=List.mem_flatMap.1 h
 unfold clCg at hx
 rcases List.mem_cons.1 hx with rfl | hx
 ·exact ⟨rfl,.inl rfl⟩
 ·split at hx
  ·rw [List.mem_singleton] at hx
   subst hx
   exact ⟨rfl,.inr rfl⟩
  ·cases hx
theorem clE_has {S:Sp} {p:Pp} {a b:Int} (h:p ∉ allFrom 0 S.rs):clE S (p,a,b)=4:=if_neg h
theorem clE_bad {S:Sp} {p:Pp} {a b:Int} (h:p∈allFrom 0 S.rs) (h2:¬ (0≤a∧a≤100000000∧(b = -1∨a<b∧b≤100000000))):clE S (p,a,b)=7:=by unfold clE;rw [if_pos (by exact h),if_neg (by exact h2)]
theorem clE_good {S:Sp} {p:Pp} {a b:Int} (h:p∈allFrom 0 S.rs) (h2:0≤a∧a≤100000000∧(b = -1∨a<b∧b≤100000000)):clE S (p,a,b)=0:=by unfold clE;rw [if_pos (by exact h),if_pos (by exact h2)]
theorem evsR_one {W:World} {b:Nat} {t:TypeId} {vl:Value} {l:List Ev} (h:Blk W b t #[vl]) (hl:ARd W vl 5 (l.map evC)):EvsR W (.slice (some ⟨b,0,none⟩) 1 1) [(vl,l)]:=by
 refine ⟨⟨_,_,rfl,fun i hi=>⟨b,0,rfl,h.lt,fun j u hj=>?_⟩⟩,fun x hx=>?_⟩
 ·have hi0:i=0:=by simpa using hi
  subst hi0
  have hj0:j=0:=by
   have:=(List.getElem?_eq_some_iff.1 hj).1
   simpa using this
  subst hj0
  rw [h.cell]
  simpa using hj
 ·rw [List.mem_singleton.1 hx]
  exact hl
theorem blk_kept_row {W W':World} {b base n k:Nat} {t t2:TypeId} {cs:Array Value} {v:Value} {xs:List Value} (h:Blk W b t cs) (hg:W.grownBy W' v.ownBlock) (hr:W.ownsRow base t2 k v n xs) (hne:t≠t2):Blk W' b t cs:=(hg.block b h.lt (fun e=>by
 rcases hr.2 with ⟨rfl,_⟩ | ⟨g,cap,cur,rfl,_,hgg,_⟩
 ·cases e
 ·have e':b=g:=Option.some.inj e
  subst e'
  unfold Blk at h
  rw [h] at hgg
  cases hgg
  exact hne rfl)).trans h
set_option maxRecDepth 100000 in
set_option maxHeartbeats 12800000 in
theorem aclaims_any (v1 v2 v3 v4:Value) (S:Sp) (ok:SpOk S) (fp:Nat→Value) (l:List Ev) (vl:Value) (cls:List Cl) (vc:Value) (B:(Th→Int)→Pp→Bool) (hB:SndIs S B) (w:World) (t:Tabs w) (hsp:SpRd w v1 v2 v3 v4 fp S) (hlv:ARd w vl 5 (l.map evC)) (hcv:ARd w vc 4 (cls.map clC)) (hl:l.length≤50000) (hcl:cls.length≤50000) :
  Calls Tryz.prog 14 #[.agg #[v1,v2,v3,v4],vl,vc] w (CsR S B l cls w):=by
 obtain ⟨i0,hi0,hz0,hz1,hz2⟩:=info_parts cg_info
 obtain ⟨ac,cc,evc⟩:=hcv.clForm
 subst evc
 obtain ⟨al,cv,evl⟩:=hlv.evForm
 subst evl
 have hal:=(Below.refl _ w).alloc (Nat.le_refl w.heap.size) (.cells #[v1,v2,v3,v4] 27)
 have hk:=Blk.new w 27 #[v1,v2,v3,v4]
 have hal2:Below w.heap.size w ((w.alloc (.cells #[v1,v2,v3,v4] 27)).alloc (.cells #[.slice al l.length cv] 28)):=hal.alloc (by simp) _
 have hk2:=hk.alloc (.cells #[.slice al l.length cv] 28)
 have hk3:=Blk.new (w.alloc (.cells #[v1,v2,v3,v4] 27)) 28 #[.slice al l.length cv]
 rw [World.size_alloc] at hk3
 have HCK:=Lib.hid (acheck_any v1 v2 v3 v4 S ok fp w.heap.size _ [(.slice al l.length cv,l)] _ (t.below hal2) (hsp.later hal2) hk2 (by simp) (fun x hx=>by rw [List.mem_singleton.1 hx];exact Nat.le_trans hl (by omega)) (evsR_one hk3 (hlv.later hal2)))
 rw [show ([(.slice al l.length cv,l)]:List (Value × List Ev)).map (·.2)=[l] from rfl,chkE_one] at HCK
 have HB0:=Lib.hid hal2
 have B0:=Lib.hid hk2
 have HSP:=Lib.hid hsp
 have HLV:=Lib.hid hlv
 have HCV:=Lib.hid hcv
 clear hsp hlv hcv ok t hal hk hal2 hk2 hk3
 go_enter Tryz.func14,Tryz.ntmps14
 go_wp2_with fail
 refine (HCK.out).mono ?_
 rintro e W ⟨rfl,hb⟩
 have HB1:=Lib.hid (below_step HB0.out hb)
 have B1:=Lib.hid (B0.out.below hb)
 clear HCK hb B0 HB0
 by_cases hE:audE S l=0
 case neg =>
  have HN:=Lib.hid (clsE_ne (cls:=cls) hE)
  have HE:=Lib.hid hE
  obtain ⟨e0,he0⟩:∃ e0,audE S l=e0:=⟨_,rfl⟩
  rw [he0] at HN HE hE ⊢
  have q1:(e0==0)=false:=by simpa using hE
  clear he0 hE
  go_wp2
  go_ret2
  exact ⟨_,[],_,rfl,World.ownsRow_nil _ _ _ _,.inl ⟨by rw [HN.out];exact HE.out,rfl,HN.out.symm⟩,HB1.out⟩
 have HE:=Lib.hid hE
 rw [hE]
 by_cases hlong:20000<cls.length
 ·have HN:=Lib.hid (clsE_long hE hlong)
  have h2:(20000:Int)<(cls.length:Int):=by omega
  clear hE
  go_wp2
  go_ret2
  exact ⟨_,[],_,rfl,World.ownsRow_nil _ _ _ _,.inl ⟨by rw [HN.out];decide,rfl,HN.out.symm⟩,HB1.out⟩
 have h2:¬ (20000:Int)<(cls.length:Int):=by omega
 have hcl2:cls.length≤20000:=by omega
 obtain ⟨hck,hrk⟩:=audE_parts hE
 have hll:=((recE_iff hck).1 hrk).1
 have hsg:=spGood hck
 have HSG:=Lib.hid hsg
 have HCH:=Lib.hid (changes_any v1 v2 v3 v4 S hck fp w.heap.size B hB l (.slice al l.length cv) hrk W (HSP.out.later HB1.out) B1.out (HLV.out.later HB1.out))
 have HGP:=Lib.hid (show ∀ x∈S.ss,∀ key,∀ p∈playsL x key,p∈allFrom 0 S.rs from fun x hx key=>hsg.plays hx)
 have HSB:=Lib.hid hB
 clear hE hck hrk hsg hlong hB
 go_wp2_with fail
 refine (HCH.out).mono ?_
 rintro e W2 ⟨vo,out,rfl,hro,hcg,hol,hb2⟩
 have HCG:=Lib.hid hcg
 have HOL:=Lib.hid hol
 have HB2:=Lib.hid (below_step HB1.out hb2)
 have B2:=Lib.hid (B1.out.below hb2)
 have hszW:=HB1.out.size
 have hro2:=row_base hro hszW
 have HR0:=Lib.hid (show W2.ownsRow w.heap.size 91 5 vo (out++(cls.take 0).flatMap clCg).length (cgCs (out++(cls.take 0).flatMap clCg)) by rw [List.take_zero,List.flatMap_nil,List.append_nil];exact hro2)
 have HBC:=Lib.hid (show ∀ (W3:World),W3.ownsRow w.heap.size 91 5 vo out.length (cgCs out)→True from fun _ _=>trivial)
 have HL0:=Lib.hid (show Below w.heap.size w W2 from HB2.out)
 have HV0:=Lib.hid (show ∀ j (hj:j<cls.length),j<0→clE S cls[j]=0 from fun j _ h=>absurd h (Nat.not_lt_zero _))
 have HK0:=Lib.hid B2.out
 clear hro hro2 hcg hol hb2 HCH B1 HB1 HBC HB2 B2
 go_wp2
 go_loopw [9,25] (fun v x wr=>∃ i:Nat,i≤cls.length∧x = .int .i64 i∧RowKit.Hid (wr.ownsRow w.heap.size 91 5 v (out++(cls.take i).flatMap clCg).length (cgCs (out++(cls.take i).flatMap clCg)))∧RowKit.Hid (∀ j (hj:j<cls.length),j<i→clE S cls[j]=0)∧RowKit.Hid (Below w.heap.size w wr)∧RowKit.Hid (Blk wr w.heap.size 27 #[v1,v2,v3,v4])) (fun _ x _=>cls.length-(intOf x).toNat)
 case atStart=>exact ⟨0,Nat.zero_le _,rfl,HR0,HV0,HL0,HK0⟩
 clear HR0 HV0 HL0 HK0
 obtain ⟨i,hi,rfl,hrow,hV,hB,hK⟩:=hrel
 by_cases hil:i<cls.length
 ·have hi2:(i:Int)<(cls.length:Int):=by omega
  obtain ⟨b,o,c',ev,hbl,k0,k1,k2,k3⟩:=(HCV.out.later hB.out).clAt i hil
  cases ev
  have HX1:=Lib.hid (fun (e:Int) (h:clE S cls[i]=e) (h0:e≠0)=>(clsE_at HE.out hcl2 hil hV.out (by rw [h];exact h0)).trans h)
  have HX2:=Lib.hid (show clE S cls[i]=0→∀ j (hj:j<cls.length),j<i+1→clE S cls[j]=0 from fun h j hj hji=>by
   rcases Nat.lt_or_ge j i with q | q
   ·exact hV.out j hj q
   ·have:j=i:=by omega
    subst this
    exact h)
  have HFM:=Lib.hid (flatMap_take hil)
  have HEL:=Lib.hid (show (out++(cls.take i).flatMap clCg).length≤200000000 by
   have h1:=HOL.out
   have h3:=clCgs_len (cls.take i)
   rw [List.length_take] at h3
   rw [List.length_append]
   omega)
  obtain ⟨c,hcn⟩:∃ c,cls[i]=c:=⟨_,rfl⟩
  rw [hcn] at k0 k1 k2 k3 HX1 HX2 HFM
  obtain ⟨⟨p1,p2⟩,fr,tt⟩:=c
  dsimp only at k0 k1 k2 k3
  obtain ⟨E,hEE⟩:∃ E,out++(cls.take i).flatMap clCg=E:=⟨_,rfl⟩
  have HEQ:=Lib.hid (show out++(cls.take (i+1)).flatMap clCg=E++clCg ((p1,p2),fr,tt) by rw [HFM.out,← hEE,List.append_assoc])
  rw [hEE] at hrow HEL
  clear hcn hEE hV HFM
  have hal:Below wr.heap.size wr (wr.alloc (.cells #[.int .i64 p1,.int .i64 p2,.int .i64 fr,.int .i64 tt] 47)):=(Below.refl _ wr).alloc (Nat.le_refl _) _
  have HX:=Lib.hid (Blk.new wr 47 #[.int .i64 p1,.int .i64 p2,.int .i64 fr,.int .i64 tt])
  have HRW:=Lib.hid (row_later hrow.out hal)
  have HBW:=Lib.hid (below_step hB.out hal)
  have HKW:=Lib.hid (hK.out.below hal)
  go_upto_region 10 with fail
  obtain ⟨X,hX⟩:∃ X,wr.heap.size=X:=⟨_,rfl⟩
  rw [hX] at HX ⊢
  generalize wr.alloc (.cells #[.int .i64 p1,.int .i64 p2,.int .i64 fr,.int .i64 tt] 47)=W3 at *
  clear k0 k1 k2 k3 hX hal hrow hB hK hbl
  have x0:W3.cell? ⟨X,0,none⟩=some (.int .i64 p1):=HX.out.cell 0
  have x1:W3.cell? ⟨X,1,none⟩=some (.int .i64 p2):=HX.out.cell 1
  have HHA:=Lib.hid (has_any v1 v2 v3 v4 S fp w.heap.size p1 p2 W3 (HSP.out.later HBW.out) HKW.out HSG.out.r)
  go_wp2_with fail
  refine (HHA.out).mono ?_
  rintro e W4 ⟨rfl,hb4⟩
  have HX4:=Lib.hid (HX.out.below hb4)
  have HR4:=Lib.hid (row_later HRW.out hb4)
  have HB4:=Lib.hid (below_step HBW.out hb4)
  have HK4:=Lib.hid (HKW.out.below hb4)
  clear x0 x1 HX HRW HBW HKW HHA hb4
  have m0:W4.cell? ⟨X,0,none⟩=some (.int .i64 p1):=HX4.out.cell 0
  have m1:W4.cell? ⟨X,1,none⟩=some (.int .i64 p2):=HX4.out.cell 1
  have m2:W4.cell? ⟨X,2,none⟩=some (.int .i64 fr):=HX4.out.cell 2
  have m3:W4.cell? ⟨X,3,none⟩=some (.int .i64 tt):=HX4.out.cell 3
  have hsz4:=HB4.out.size
  have hel:=HEL.out
  by_cases hh:(p1,p2)∈allFrom 0 S.rs
  case neg =>
   have HN:=Lib.hid (HX1.out 4 (clE_has hh) (by decide))
   rw [decide_eq_false hh]
   clear hh m0 m1 m2 m3
   go_wp2
   go_ret2
   exact ⟨_,[],_,rfl,World.ownsRow_nil _ _ _ _,.inl ⟨by rw [HN.out];decide,rfl,HN.out.symm⟩,HB4.out⟩
  rw [decide_eq_true hh]
  by_cases g1:fr<0
  ·have _:=g1
   have HN:=Lib.hid (HX1.out 7 (clE_bad hh (fun q=>by omega)) (by decide))
   clear hh m0 m1
   go_wp2
   go_ret2
   exact ⟨_,[],_,rfl,World.ownsRow_nil _ _ _ _,.inl ⟨by rw [HN.out];decide,rfl,HN.out.symm⟩,HB4.out⟩
  have d1:decide (fr<0)=false:=decide_eq_false g1
  by_cases g2:100000000<fr
  ·have _:=g2
   have HN:=Lib.hid (HX1.out 7 (clE_bad hh (fun q=>by omega)) (by decide))
   clear hh m0 m1
   go_wp2
   go_ret2
   exact ⟨_,[],_,rfl,World.ownsRow_nil _ _ _ _,.inl ⟨by rw [HN.out];decide,rfl,HN.out.symm⟩,HB4.out⟩
  have d2:decide (100000000<fr)=false:=decide_eq_false g2
  by_cases g3:tt = -1
  ·subst g3
   have HV5:=Lib.hid (HX2.out (clE_good hh (by omega)))
   have HC:=Lib.hid (clCg_one (p:=(p1,p2)) (a:=fr) (b:=-1) (by omega))
   clear hh
   have hal5:=(Below.refl _ W4).alloc (Nat.le_refl W4.heap.size) (.cells #[.int .i64 fr,.int .i64 p1,.int .i64 p2,.int .i64 0,.int .i64 1] 91)
   have HX5:=Lib.hid (HX4.out.below hal5)
   have HK5:=Lib.hid (HK4.out.below hal5)
   clear hal5
   go_upto_region 15 with (at_builtin;refine wpList_append_lies _ rfl _ _ 87 rfl w.heap.size 91 i0 _ 5 40 Tryz.underlying87 hi0 hz0 hz1 hz2 rfl (by omega) _ _ _ rfl (HR4.out.alloc _) ⟨W4.heap.size,0,none⟩ 1 1 [.int .i64 fr,.int .i64 p1,.int .i64 p2,.int .i64 0,.int .i64 1] rfl rfl (World.news_of_block (cs:=#[.int .i64 fr,.int .i64 p1,.int .i64 p2,.int .i64 0,.int .i64 1]) (t:=91) (fr:=(0,0)) (heap_alloc_new W4 _)) (by simp [Value.oneCell']) (by omega) (by unfold maxLen;omega) (by omega) (by simp;omega) (W4.heap.size+1) (by simp) ?_;intro gg cap3 w5 hown3 hgrow hat3 hlt3)
   have HR5:=Lib.hid (cgs_step (l:=E) (a:=fr) (p:=(p1,p2)) (b:=0) (c:=1) hown3 rfl)
   have HB5:=Lib.hid (push_low HB4.out HR4.out hgrow)
   have HX6:=Lib.hid ((blk_kept_row HX5.out hgrow (HR4.out.alloc _) (by decide)))
   have HK6:=Lib.hid ((blk_kept_row HK5.out hgrow (HR4.out.alloc _) (by decide)))
   clear hown3 hgrow hat3 hlt3 m0 m1 m2 m3 HX5 HK5
   have n3:w5.cell? ⟨X,3,none⟩=some (.int .i64 (-1)):=HX6.out.cell 3
   go_wp2
   go_roundw
   case rel=>exact ⟨i+1,by omega,by go_num,by rw [HEQ.out,HC.out];simpa only [List.length_append] using HR5,HV5,HB5,HK6⟩
   case measure=>simp [intOf];omega
  have q3:(tt == -1)=false:=by rw [beq_eq_false_iff_ne];exact g3
  by_cases g4:tt≤fr
  ·have _:=g4
   have HN:=Lib.hid (HX1.out 7 (clE_bad hh (fun q=>by omega)) (by decide))
   clear hh m0 m1
   go_wp2
   go_ret2
   exact ⟨_,[],_,rfl,World.ownsRow_nil _ _ _ _,.inl ⟨by rw [HN.out];decide,rfl,HN.out.symm⟩,HB4.out⟩
  have d4:decide (tt≤fr)=false:=decide_eq_false g4
  by_cases g5:100000000<tt
  ·have _:=g5
   have HN:=Lib.hid (HX1.out 7 (clE_bad hh (fun q=>by omega)) (by decide))
   clear hh m0 m1
   go_wp2
   go_ret2
   exact ⟨_,[],_,rfl,World.ownsRow_nil _ _ _ _,.inl ⟨by rw [HN.out];decide,rfl,HN.out.symm⟩,HB4.out⟩
  have d5:decide (100000000<tt)=false:=decide_eq_false g5
  have g6:(0:Int)≤tt:=by omega
  have HV5:=Lib.hid (HX2.out (clE_good hh (by omega)))
  have HC:=Lib.hid (clCg_two (p:=(p1,p2)) (a:=fr) (b:=tt) (by omega))
  clear hh
  have hal5:=(Below.refl _ W4).alloc (Nat.le_refl W4.heap.size) (.cells #[.int .i64 fr,.int .i64 p1,.int .i64 p2,.int .i64 0,.int .i64 1] 91)
  have HX5:=Lib.hid (HX4.out.below hal5)
  have HK5:=Lib.hid (HK4.out.below hal5)
  clear hal5
  go_upto_region 15 with (at_builtin;refine wpList_append_lies _ rfl _ _ 87 rfl w.heap.size 91 i0 _ 5 40 Tryz.underlying87 hi0 hz0 hz1 hz2 rfl (by omega) _ _ _ rfl (HR4.out.alloc _) ⟨W4.heap.size,0,none⟩ 1 1 [.int .i64 fr,.int .i64 p1,.int .i64 p2,.int .i64 0,.int .i64 1] rfl rfl (World.news_of_block (cs:=#[.int .i64 fr,.int .i64 p1,.int .i64 p2,.int .i64 0,.int .i64 1]) (t:=91) (fr:=(0,0)) (heap_alloc_new W4 _)) (by simp [Value.oneCell']) (by omega) (by unfold maxLen;omega) (by omega) (by simp;omega) (W4.heap.size+1) (by simp) ?_;intro gg cap3 w5 hown3 hgrow hat3 hlt3)
  have HR5:=Lib.hid (cgs_step (l:=E) (a:=fr) (p:=(p1,p2)) (b:=0) (c:=1) hown3 rfl)
  have HB5:=Lib.hid (push_low HB4.out HR4.out hgrow)
  have HX6:=Lib.hid ((blk_kept_row HX5.out hgrow (HR4.out.alloc _) (by decide)))
  have HK6:=Lib.hid ((blk_kept_row HK5.out hgrow (HR4.out.alloc _) (by decide)))
  clear hown3 hgrow hat3 hlt3 m0 m1 m2 m3 HX5 HK5
  have n0:w5.cell? ⟨X,0,none⟩=some (.int .i64 p1):=HX6.out.cell 0
  have n1:w5.cell? ⟨X,1,none⟩=some (.int .i64 p2):=HX6.out.cell 1
  have n3:w5.cell? ⟨X,3,none⟩=some (.int .i64 tt):=HX6.out.cell 3
  have hsz5:=HB5.out.size
  have hle:(E++[(fr,(p1,p2),(0:Int),(1:Int))]).length=E.length+1:=by simp
  have hal6:=(Below.refl _ w5).alloc (Nat.le_refl w5.heap.size) (.cells #[.int .i64 tt,.int .i64 p1,.int .i64 p2,.int .i64 0,.int .i64 (-1)] 91)
  have HK7:=Lib.hid (HK6.out.below hal6)
  have HR6:=Lib.hid HR5.out
  rw [hle] at HR6
  clear hal6
  go_wp2_with (at_builtin;refine wpList_append_lies _ rfl _ _ 87 rfl w.heap.size 91 i0 _ 5 40 Tryz.underlying87 hi0 hz0 hz1 hz2 rfl (by omega) _ _ _ rfl (HR6.out.alloc _) ⟨w5.heap.size,0,none⟩ 1 1 [.int .i64 tt,.int .i64 p1,.int .i64 p2,.int .i64 0,.int .i64 (-1)] rfl rfl (World.news_of_block (cs:=#[.int .i64 tt,.int .i64 p1,.int .i64 p2,.int .i64 0,.int .i64 (-1)]) (t:=91) (fr:=(0,0)) (heap_alloc_new w5 _)) (by simp [Value.oneCell']) (by omega) (by unfold maxLen;omega) (by omega) (by simp;omega) (w5.heap.size+1) (by simp) ?_;intro gg cap3 w6 hown3 hgrow hat3 hlt3)
  have HR7:=Lib.hid (cgs_step (l:=E++[(fr,(p1,p2),0,1)]) (a:=tt) (p:=(p1,p2)) (b:=0) (c:=-1) hown3 (by rw [hle]))
  have HB7:=Lib.hid (push_low HB5.out HR5.out hgrow)
  have HK8:=Lib.hid ((blk_kept_row HK7.out hgrow (HR5.out.alloc _) (by decide)))
  clear hown3 hgrow hat3 hlt3 n0 n1 n3 HK7
  go_wp2
  go_roundw
  case rel=>exact ⟨i+1,by omega,by go_num,by rw [HEQ.out,HC.out];have:=HR7.out;simpa only [List.length_append,List.append_assoc,List.cons_append,List.nil_append] using Lib.hid this,HV5,HB7,HK8⟩
  case measure=>simp [intOf];omega
 ·have hi2:¬ (i:Int)<(cls.length:Int):=by omega
  have hie:i=cls.length:=by omega
  rw [hie,List.take_length] at hrow
  have HZ:=Lib.hid (clsE_zero HE.out hcl2 (fun j hj=>hV.out j hj (by omega)))
  obtain ⟨E,hEE⟩:∃ E,out++cls.flatMap clCg=E:=⟨_,rfl⟩
  have HEE:=Lib.hid hEE
  have HEL:E.length≤200000000:=by
   have h1:=HOL.out
   have h3:=clCgs_len cls
   rw [← hEE,List.length_append]
   omega
  have hsm:∀ x∈E,(-1≤x.2.2.1∧x.2.2.1≤1)∧(-1≤x.2.2.2∧x.2.2.2≤1):=fun x hx=>by
   rw [← hEE] at hx
   rcases List.mem_append.1 hx with h | h
   ·have:=chg_all HSB.out HGP.out HCG.out h
    omega
   ·have:=clCg_small h
    omega
  rw [hEE] at hrow
  have HFA:=Lib.hid (afaults_any E (by omega) hsm w.heap.size u9 wr hB.out.size hrow.out)
  clear hie hEE hV hsm hrow
  go_wp2_with fail
  refine (HFA.out).mono ?_
  rintro e W9 ⟨srt,u,m,c,hp,hs,rfl,hr,hf,hb9⟩
  rw [← HEE.out] at hp
  have HF:=Lib.hid (show ClP S B l cls m c from .inr ⟨HZ.out,by rw [← goF_cl HSB.out HGP.out HZ.out HCG.out hp hs];exact hf⟩)
  have HR9:=Lib.hid hr
  have HB9:=Lib.hid (hB.out.trans hb9)
  clear hp hs hr hf hb9
  go_wp2
  go_ret2
  exact ⟨_,m,c,rfl,HR9.out,HF.out,HB9.out⟩
end Go.Proofs.YthhfmppealmblaaGreatDoor
