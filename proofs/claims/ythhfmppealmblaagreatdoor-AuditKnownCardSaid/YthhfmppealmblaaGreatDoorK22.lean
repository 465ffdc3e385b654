/-
  A part of the proof: CM, PK, F2r, EP, SA, AW.
-/
import Derived.Test.YthhfmppealmblaaGreatDoorK15
import Derived.Test.YthhfmppealmblaaGreatDoorK21
import Derived.Test.YthhfmppealmblaaGreatDoorN01
import Derived.Test.YthhfmppealmblaaGreatDoorN06
import Derived.Test.YthhfmppealmblaaGreatDoorN02
import Derived.Test.YthhfmppealmblaaGreatDoorN11
import Derived.Test.YthhfmppealmblaaGreatDoorK13
import Derived.Deep.RegionHeld3
namespace Go.Proofs.YthhfmppealmblaaGreatDoor
open Go.RowKit
theorem flatMap_take {cls:List Cl} {i:Nat} (h:i<cls.length):(cls.take (i+1)).flatMap clCg=(cls.take i).flatMap clCg++clCg cls[i]:=by
 rw [List.take_succ_eq_append_getElem h,List.flatMap_append,List.flatMap_cons,List.flatMap_nil,List.append_nil]
theorem clCg_one {p:Pp} {a b:Int} (h:b<0):clCg (p,a,b)=[(a,p,0,1)]:=by unfold clCg;rw [if_neg (by simp only;omega)]
theorem clCg_two {p:Pp} {a b:Int} (h:0≤b):clCg (p,a,b)=[(a,p,0,1),(b,p,0,-1)]:=by unfold clCg;rw [if_pos (by exact h)]
theorem clCg_len (c:Cl):(clCg c).length≤2:=by unfold clCg;split <;> simp
theorem clCgs_len:∀ cls:List Cl,(cls.flatMap clCg).length≤2 * cls.length
 | []=>Nat.zero_le _
 | c :: cls=>by
  rw [List.flatMap_cons,List.length_append,List.length_cons]
  have:=clCg_len c
  have:=clCgs_len cls
  omega
theorem clCg_small {cls:List Cl} {x:Cg} (h:x∈cls.flatMap clCg):x.2.2.1=0∧(x.2.2.2=1∨x.2.2.2 = -1):=by
 obtain ⟨c,_,hx⟩:=List.mem_flatMap.1 h
 unfold clCg at hx
 rcases List.mem_cons.1 hx with rfl | hx
 ·exact ⟨rfl,.inl rfl⟩
 ·split at hx
  ·rw [List.mem_singleton] at hx
   subst hx
   exact ⟨rfl,.inr rfl⟩
  ·cases hx
theorem clE_has {S:Sp} {p:Pp} {a b:Int} (h:p ∉ allFrom 0 S.rs):clE S (p,a,b)=4:=if_neg h
theorem clE_bad {S:Sp} {p:Pp} {a b:Int} (h:p∈allFrom 0 S.rs) (h2:¬ (0≤a∧a≤100000000∧(b = -1∨a<b∧b≤100000000))):clE S (p,a,b)=7:=by unfold clE;rw [if_pos (by exact h),if_neg (by exact h2)]
theorem clE_good {S:Sp} {p:Pp} {a b:Int} (h:p∈allFrom 0 S.rs) (h2:0≤a∧a≤100000000∧(b = -1∨a<b∧b≤100000000)):clE S (p,a,b)=0:=by unfold clE;rw [if_pos (by exact h),if_pos (by exact h2)]
theorem evsR_one {W:World} {b:Nat} {t:TypeId} {vl:Value} {l:List Ev} (h:Blk W b t #[vl]) (hl:ARd W vl 5 (l.map evC)):EvsR W (.slice (some ⟨b,0,none⟩) 1 1) [(vl,l)]:=by
 refine ⟨⟨_,_,rfl,fun i hi=>⟨b,0,rfl,h.lt,fun j u hj=>?_⟩⟩,fun x hx=>?_⟩
 ·have hi0:i=0:=by simpa using hi
  subst hi0
  have hj0:j=0:=by
   have:=(List.getElem?_eq_some_iff.1 hj).1
   simpa using this
  subst hj0
  rw [h.cell]
  simpa using hj
 ·rw [List.mem_singleton.1 hx]
  exact hl
theorem blk_kept_row {W W':World} {b base n k:Nat} {t t2:TypeId} {cs:Array Value} {v:Value} {xs:List Value} (h:Blk W b t cs) (hg:W.grownBy W' v.ownBlock) (hr:W.ownsRow base t2 k v n xs) (hne:t≠t2):Blk W' b t cs:=(hg.block b h.lt (fun e=>by
 rcases hr.2 with ⟨rfl,_⟩ | ⟨g,cap,cur,rfl,_,hgg,_⟩
 ·cases e
 ·have e':b=g:=Option.some.inj e
  subst e'
  unfold Blk at h
  rw [h] at hgg
  cases hgg
  exact hne rfl)).trans h
set_option maxRecDepth 100000 in
set_option maxHeartbeats 12800000 in
theorem aclaims_any (v1 v2 v3 v4:Value) (S:Sp) (ok:SpOk S) (fp:Nat→Value) (l:List Ev) (vl:Value) (cls:List Cl) (vc:Value) (B:(Th→Int)→Pp→Bool) (hB:SndIs S B) (w:World) (t:Tabs w) (hsp:SpRd w v1 v2 v3 v4 fp S) (hlv:ARd w vl 5 (l.map evC)) (hcv:ARd w vc 4 (cls.map clC)) (hl:l.length≤50000) (hcl:cls.length≤50000) :
  Calls Tryz.prog 14 #[.agg #[v1,v2,v3,v4],vl,vc] w (CsR S B l cls w):=by
 obtain ⟨i0,hi0,hz0,hz1,hz2⟩:=info_parts cg_info
 obtain ⟨ac,cc,evc⟩:=hcv.clForm
 subst evc
 obtain ⟨al,cv,evl⟩:=hlv.evForm
 subst evl
 have hal:=(Below.refl _ w).alloc (Nat.le_refl w.heap.size) (.cells #[v1,v2,v3,v4] 27)
 have hk:=Blk.new w 27 #[v1,v2,v3,v4]
 have hal2:Below w.heap.size w ((w.alloc (.cells #[v1,v2,v3,v4] 27)).alloc (.cells #[.slice al l.length cv] 28)):=hal.alloc (by simp) _
 have hk2:=hk.alloc (.cells #[.slice al l.length cv] 28)
 have hk3:=Blk.new (w.alloc (.cells #[v1,v2,v3,v4] 27)) 28 #[.slice al l.length cv]
 rw [World.size_alloc] at hk3
 have HCK:=Lib.hid (acheck_any v1 v2 v3 v4 S ok fp w.heap.size _ [(.slice al l.length cv,l)] _ (t.below hal2) (hsp.later hal2) hk2 (by simp) (fun x hx=>by rw [List.mem_singleton.1 hx];exact Nat.le_trans hl (by omega)) (evsR_one hk3 (hlv.later hal2)))
 rw [show ([(.slice al l.length cv,l)]:List (Value × List Ev)).map (·.2)=[l] from rfl,chkE_one] at HCK
 have HB0:=Lib.hid hal2
 have B0:=Lib.hid hk2
 have HSP:=Lib.hid hsp
 have HLV:=Lib.hid hlv
 have HCV:=Lib.hid hcv
 clear hsp hlv hcv ok t hal hk hal2 hk2 hk3
 go_enter Tryz.func14,Tryz.ntmps14
 go_wp2_with fail
 refine (HCK.out).mono ?_
 rintro e W ⟨rfl,hb⟩
 have HB1:=Lib.hid (below_step HB0.out hb)
 have B1:=Lib.hid (B0.out.below hb)
 clear HCK hb B0 HB0
 by_cases hE:audE S l=0
 case neg =>
  have HN:=Lib.hid (clsE_ne (cls:=cls) hE)
  have HE:=Lib.hid hE
  obtain ⟨e0,he0⟩:∃ e0,audE S l=e0:=⟨_,rfl⟩
  rw [he0] at HN HE hE ⊢
  have q1:(e0==0)=false:=by simpa using hE
  clear he0 hE
  go_wp2
  go_ret2
  exact ⟨_,[],_,rfl,World.ownsRow_nil _ _ _ _,.inl ⟨by rw [HN.out];exact HE.out,rfl,HN.out.symm⟩,HB1.out⟩
 have HE:=Lib.hid hE
 rw [hE]
 by_cases hlong:20000<cls.length
 ·have HN:=Lib.hid (clsE_long hE hlong)
  have h2:(20000:Int)<(cls.length:Int):=by omega
  clear hE
  go_wp2
  go_ret2
  exact ⟨_,[],_,rfl,World.ownsRow_nil _ _ _ _,.inl ⟨by rw [HN.out];decide,rfl,HN.out.symm⟩,HB1.out⟩
 have h2:¬ (20000:Int)<(cls.length:Int):=by omega
 have hcl2:cls.length≤20000:=by omega
 obtain ⟨hck,hrk⟩:=audE_parts hE
 have hll:=((recE_iff hck).1 hrk).1
 have hsg:=spGood hck
 have HSG:=Lib.hid hsg
 have HCH:=Lib.hid (changes_any v1 v2 v3 v4 S hck fp w.heap.size B hB l (.slice al l.length cv) hrk W (HSP.out.later HB1.out) B1.out (HLV.out.later HB1.out))
 have HGP:=Lib.hid (show ∀ x∈S.ss,∀ key,∀ p∈playsL x key,p∈allFrom 0 S.rs from fun x hx key=>hsg.plays hx)
 have HSB:=Lib.hid hB
 clear hE hck hrk hsg hlong hB
 go_wp2_with fail
 refine (HCH.out).mono ?_
 rintro e W2 ⟨vo,out,rfl,hro,hcg,hol,hb2⟩
 have HCG:=Lib.hid hcg
 have HOL:=Lib.hid hol
 have HB2:=Lib.hid (below_step HB1.out hb2)
 have B2:=Lib.hid (B1.out.below hb2)
 have hszW:=HB1.out.size
 have hro2:=row_base hro hszW
 have HR0:=Lib.hid (show W2.ownsRow w.heap.size 91 5 vo (out++(cls.take 0).flatMap clCg).length (cgCs (out++(cls.take 0).flatMap clCg)) by rw [List.take_zero,List.flatMap_nil,List.append_nil];exact hro2)
 have HBC:=Lib.hid (show ∀ (W3:World),W3.ownsRow w.heap.size 91 5 vo out.length (cgCs out)→True from fun _ _=>trivial)
 have HL0:=Lib.hid (show Below w.heap.size w W2 from HB2.out)
 have HV0:=Lib.hid (show ∀ j (hj:j<cls.length),j<0→clE S cls[j]=0 from fun j _ h=>absurd h (Nat.not_lt_zero _))
 have HK0:=Lib.hid B2.out
 clear hro hro2 hcg hol hb2 HCH B1 HB1 HBC HB2 B2
 go_wp2
 go_loopw [9,25] (fun v x wr=>∃ i:Nat,i≤cls.length∧x = .int .i64 i∧RowKit.Hid (wr.ownsRow w.heap.size 91 5 v (out++(cls.take i).flatMap clCg).length (cgCs (out++(cls.take i).flatMap clCg)))∧RowKit.Hid (∀ j (hj:j<cls.length),j<i→clE S cls[j]=0)∧RowKit.Hid (Below w.heap.size w wr)∧RowKit.Hid (Blk wr w.heap.size 27 #[v1,v2,v3,v4])) (fun _ x _=>cls.length-(intOf x).toNat)
 case atStart=>exact ⟨0,Nat.zero_le _,rfl,HR0,HV0,HL0,HK0⟩
 clear HR0 HV0 HL0 HK0
 obtain ⟨i,hi,rfl,hrow,hV,hB,hK⟩:=hrel
 by_cases hil:i<cls.length
 ·have hi2:(i:Int)<(cls.length:Int):=by omega
  obtain ⟨b,o,c',ev,hbl,k0,k1,k2,k3⟩:=(HCV.out.later hB.out).clAt i hil
  cases ev
  have HX1:=Lib.hid (fun (e:Int) (h:clE S cls[i]=e) (h0:e≠0)=>(clsE_at HE.out hcl2 hil hV.out (by rw [h];exact h0)).trans h)
  have HX2:=Lib.hid (show clE S cls[i]=0→∀ j (hj:j<cls.length),j<i+1→clE S cls[j]=0 from fun h j hj hji=>by
   rcases Nat.lt_or_ge j i with q | q
   ·exact hV.out j hj q
   ·have:j=i:=by omega
    subst this
    exact h)
  have HFM:=Lib.hid (flatMap_take hil)
  have HEL:=Lib.hid (show (out++(cls.take i).flatMap clCg).length≤200000000 by
   have h1:=HOL.out
   have h3:=clCgs_len (cls.take i)
   rw [List.length_take] at h3
   rw [List.length_append]
   omega)
  obtain ⟨c,hcn⟩:∃ c,cls[i]=c:=⟨_,rfl⟩
  rw [hcn] at k0 k1 k2 k3 HX1 HX2 HFM
  obtain ⟨⟨p1,p2⟩,fr,tt⟩:=c
  dsimp only at k0 k1 k2 k3
  obtain ⟨E,hEE⟩:∃ E,out++(cls.take i).flatMap clCg=E:=⟨_,rfl⟩
  have HEQ:=Lib.hid (show out++(cls.take (i+1)).flatMap clCg=E++clCg ((p1,p2),fr,tt) by rw [HFM.out,← hEE,List.append_assoc])
  rw [hEE] at hrow HEL
  clear hcn hEE hV HFM
  have hal:Below wr.heap.size wr (wr.alloc (.cells #[.int .i64 p1,.int .i64 p2,.int .i64 fr,.int .i64 tt] 47)):=(Below.refl _ wr).alloc (Nat.le_refl _) _
  have HX:=Lib.hid (Blk.new wr 47 #[.int .i64 p1,.int .i64 p2,.int .i64 fr,.int .i64 tt])
  have HRW:=Lib.hid (row_later hrow.out hal)
  have HBW:=Lib.hid (below_step hB.out hal)
  have HKW:=Lib.hid (hK.out.below hal)
  go_upto_region 10 with fail
  obtain ⟨X,hX⟩:∃ X,wr.heap.size=X:=⟨_,rfl⟩
  rw [hX] at HX ⊢
  generalize wr.alloc (.cells #[.int .i64 p1,.int .i64 p2,.int .i64 fr,.int .i64 tt] 47)=W3 at *
  clear k0 k1 k2 k3 hX hal hrow hB hK hbl
  have x0:W3.cell? ⟨X,0,none⟩=some (.int .i64 p1):=HX.out.cell 0
  have x1:W3.cell? ⟨X,1,none⟩=some (.int .i64 p2):=HX.out.cell 1
  have HHA:=Lib.hid (has_any v1 v2 v3 v4 S fp w.heap.size p1 p2 W3 (HSP.out.later HBW.out) HKW.out HSG.out.r)
  go_wp2_with fail
  refine (HHA.out).mono ?_
  rintro e W4 ⟨rfl,hb4⟩
  have HX4:=Lib.hid (HX.out.below hb4)
  have HR4:=Lib.hid (row_later HRW.out hb4)
  have HB4:=Lib.hid (below_step HBW.out hb4)
  have HK4:=Lib.hid (HKW.out.below hb4)
  clear x0 x1 HX HRW HBW HKW HHA hb4
  have m0:W4.cell? ⟨X,0,none⟩=some (.int .i64 p1):=HX4.out.cell 0
  have m1:W4.cell? ⟨X,1,none⟩=some (.int .i64 p2):=HX4.out.cell 1
  have m2:W4.cell? ⟨X,2,none⟩=some (.int .i64 fr):=HX4.out.cell 2
  have m3:W4.cell? ⟨X,3,none⟩=some (.int .i64 tt):=HX4.out.cell 3
  have hsz4:=HB4.out.size
  have hel:=HEL.out
  by_cases hh:(p1,p2)∈allFrom 0 S.rs
  case neg =>
   have HN:=Lib.hid (HX1.out 4 (clE_has hh) (by decide))
   rw [decide_eq_false hh]
   clear hh m0 m1 m2 m3
   go_wp2
   go_ret2
   exact ⟨_,[],_,rfl,World.ownsRow_nil _ _ _ _,.inl ⟨by rw [HN.out];decide,rfl,HN.out.symm⟩,HB4.out⟩
  rw [decide_eq_true hh]
  by_cases g1:fr<0
  ·have _:=g1
   have HN:=Lib.hid (HX1.out 7 (clE_bad hh (fun q=>by omega)) (by decide))
   clear hh m0 m1
   go_wp2
   go_ret2
   exact ⟨_,[],_,rfl,World.ownsRow_nil _ _ _ _,.inl ⟨by rw [HN.out];decide,rfl,HN.out.symm⟩,HB4.out⟩
  have d1:decide (fr<0)=false:=decide_eq_false g1
  by_cases g2:100000000<fr
  ·have _:=g2
   have HN:=Lib.hid (HX1.out 7 (clE_bad hh (fun q=>by omega)) (by decide))
   clear hh m0 m1
   go_wp2
   go_ret2
   exact ⟨_,[],_,rfl,World.ownsRow_nil _ _ _ _,.inl ⟨by rw [HN.out];decide,rfl,HN.out.symm⟩,HB4.out⟩
  have d2:decide (100000000<fr)=false:=decide_eq_false g2
  by_cases g3:tt = -1
  ·subst g3
   have HV5:=Lib.hid (HX2.out (clE_good hh (by omega)))
   have HC:=Lib.hid (clCg_one (p:=(p1,p2)) (a:=fr) (b:=-1) (by omega))
   clear hh
   have hal5:=(Below.refl _ W4).alloc (Nat.le_refl W4.heap.size) (.cells #[.int .i64 fr,.int .i64 p1,.int .i64 p2,.int .i64 0,.int .i64 1] 91)
   have HX5:=Lib.hid (HX4.out.below hal5)
   have HK5:=Lib.hid (HK4.out.below hal5)
   clear hal5
   go_upto_region 15 with (at_builtin;refine wpList_append_lies _ rfl _ _ 87 rfl w.heap.size 91 i0 _ 5 40 Tryz.underlying87 hi0 hz0 hz1 hz2 rfl (by omega) _ _ _ rfl (HR4.out.alloc _) ⟨W4.heap.size,0,none⟩ 1 1 [.int .i64 fr,.int .i64 p1,.int .i64 p2,.int .i64 0,.int .i64 1] rfl rfl (World.news_of_block (cs:=#[.int .i64 fr,.int .i64 p1,.int .i64 p2,.int .i64 0,.int .i64 1]) (t:=91) (fr:=(0,0)) (heap_alloc_new W4 _)) (by simp [Value.oneCell']) (by omega) (by unfold maxLen;omega) (by omega) (by simp;omega) (W4.heap.size+1) (by simp) ?_;intro gg cap3 w5 hown3 hgrow hat3 hlt3)
   have HR5:=Lib.hid (cgs_step (l:=E) (a:=fr) (p:=(p1,p2)) (b:=0) (c:=1) hown3 rfl)
   have HB5:=Lib.hid (push_low HB4.out HR4.out hgrow)
   have HX6:=Lib.hid ((blk_kept_row HX5.out hgrow (HR4.out.alloc _) (by decide)))
   have HK6:=Lib.hid ((blk_kept_row HK5.out hgrow (HR4.out.alloc _) (by decide)))
   clear hown3 hgrow hat3 hlt3 m0 m1 m2 m3 HX5 HK5
   have n3:w5.cell? ⟨X,3,none⟩=some (.int .i64 (-1)):=HX6.out.cell 3
   go_wp2
   go_roundw
   case rel=>exact ⟨i+1,by omega,by go_num,by rw [HEQ.out,HC.out];simpa only [List.length_append] using HR5,HV5,HB5,HK6⟩
   case measure=>simp [intOf];omega
  have q3:(tt == -1)=false:=by rw [beq_eq_false_iff_ne];exact g3
  by_cases g4:tt≤fr
  ·have _:=g4
   have HN:=Lib.hid (HX1.out 7 (clE_bad hh (fun q=>by omega)) (by decide))
   clear hh m0 m1
   go_wp2
   go_ret2
   exact ⟨_,[],_,rfl,World.ownsRow_nil _ _ _ _,.inl ⟨by rw [HN.out];decide,rfl,HN.out.symm⟩,HB4.out⟩
  have d4:decide (tt≤fr)=false:=decide_eq_false g4
  by_cases g5:100000000<tt
  ·have _:=g5
   have HN:=Lib.hid (HX1.out 7 (clE_bad hh (fun q=>by omega)) (by decide))
   clear hh m0 m1
   go_wp2
   go_ret2
   exact ⟨_,[],_,rfl,World.ownsRow_nil _ _ _ _,.inl ⟨by rw [HN.out];decide,rfl,HN.out.symm⟩,HB4.out⟩
  have d5:decide (100000000<tt)=false:=decide_eq_false g5
  have g6:(0:Int)≤tt:=by omega
  have HV5:=Lib.hid (HX2.out (clE_good hh (by omega)))
  have HC:=Lib.hid (clCg_two (p:=(p1,p2)) (a:=fr) (b:=tt) (by omega))
  clear hh
  have hal5:=(Below.refl _ W4).alloc (Nat.le_refl W4.heap.size) (.cells #[.int .i64 fr,.int .i64 p1,.int .i64 p2,.int .i64 0,.int .i64 1] 91)
  have HX5:=Lib.hid (HX4.out.below hal5)
  have HK5:=Lib.hid (HK4.out.below hal5)
  clear hal5
  go_upto_region 15 with (at_builtin;refine wpList_append_lies _ rfl _ _ 87 rfl w.heap.size 91 i0 _ 5 40 Tryz.underlying87 hi0 hz0 hz1 hz2 rfl (by omega) _ _ _ rfl (HR4.out.alloc _) ⟨W4.heap.size,0,none⟩ 1 1 [.int .i64 fr,.int .i64 p1,.int .i64 p2,.int .i64 0,.int .i64 1] rfl rfl (World.news_of_block (cs:=#[.int .i64 fr,.int .i64 p1,.int .i64 p2,.int .i64 0,.int .i64 1]) (t:=91) (fr:=(0,0)) (heap_alloc_new W4 _)) (by simp [Value.oneCell']) (by omega) (by unfold maxLen;omega) (by omega) (by simp;omega) (W4.heap.size+1) (by simp) ?_;intro gg cap3 w5 hown3 hgrow hat3 hlt3)
  have HR5:=Lib.hid (cgs_step (l:=E) (a:=fr) (p:=(p1,p2)) (b:=0) (c:=1) hown3 rfl)
  have HB5:=Lib.hid (push_low HB4.out HR4.out hgrow)
  have HX6:=Lib.hid ((blk_kept_row HX5.out hgrow (HR4.out.alloc _) (by decide)))
  have HK6:=Lib.hid ((blk_kept_row HK5.out hgrow (HR4.out.alloc _) (by decide)))
  clear hown3 hgrow hat3 hlt3 m0 m1 m2 m3 HX5 HK5
  have n0:w5.cell? ⟨X,0,none⟩=some (.int .i64 p1):=HX6.out.cell 0
  have n1:w5.cell? ⟨X,1,none⟩=some (.int .i64 p2):=HX6.out.cell 1
  have n3:w5.cell? ⟨X,3,none⟩=some (.int .i64 tt):=HX6.out.cell 3
  have hsz5:=HB5.out.size
  have hle:(E++[(fr,(p1,p2),(0:Int),(1:Int))]).length=E.length+1:=by simp
  have hal6:=(Below.refl _ w5).alloc (Nat.le_refl w5.heap.size) (.cells #[.int .i64 tt,.int .i64 p1,.int .i64 p2,.int .i64 0,.int .i64 (-1)] 91)
  have HK7:=Lib.hid (HK6.out.below hal6)
  have HR6:=Lib.hid HR5.out
  rw [hle] at HR6
  clear hal6
  go_wp2_with (at_builtin;refine wpList_append_lies _ rfl _ _ 87 rfl w.heap.size 91 i0 _ 5 40 Tryz.underlying87 hi0 hz0 hz1 hz2 rfl (by omega) _ _ _ rfl (HR6.out.alloc _) ⟨w5.heap.size,0,none⟩ 1 1 [.int .i64 tt,.int .i64 p1,.int .i64 p2,.int .i64 0,.int .i64 (-1)] rfl rfl (World.news_of_block (cs:=#[.int .i64 tt,.int .i64 p1,.int .i64 p2,.int .i64 0,.int .i64 (-1)]) (t:=91) (fr:=(0,0)) (heap_alloc_new w5 _)) (by simp [Value.oneCell']) (by omega) (by unfold maxLen;omega) (by omega) (by simp;omega) (w5.heap.size+1) (by simp) ?_;intro gg cap3 w6 hown3 hgrow hat3 hlt3)
  have HR7:=Lib.hid (cgs_step (l:=E++[(fr,(p1,p2),0,1)]) (a:=tt) (p:=(p1,p2)) (b:=0) (c:=-1) hown3 (by rw [hle]))
  have HB7:=Lib.hid (push_low HB5.out HR5.out hgrow)
  have HK8:=Lib.hid ((blk_kept_row HK7.out hgrow (HR5.out.alloc _) (by decide)))
  clear hown3 hgrow hat3 hlt3 n0 n1 n3 HK7
  go_wp2
  go_roundw
  case rel=>exact ⟨i+1,by omega,by go_num,by rw [HEQ.out,HC.out];have:=HR7.out;simpa only [List.length_append,List.append_assoc,List.cons_append,List.nil_append] using Lib.hid this,HV5,HB7,HK8⟩
  case measure=>simp [intOf];omega
 ·have hi2:¬ (i:Int)<(cls.length:Int):=by omega
  have hie:i=cls.length:=by omega
  rw [hie,List.take_length] at hrow
  have HZ:=Lib.hid (clsE_zero HE.out hcl2 (fun j hj=>hV.out j hj (by omega)))
  obtain ⟨E,hEE⟩:∃ E,out++cls.flatMap clCg=E:=⟨_,rfl⟩
  have HEE:=Lib.hid hEE
  have HEL:E.length≤200000000:=by
   have h1:=HOL.out
   have h3:=clCgs_len cls
   rw [← hEE,List.length_append]
   omega
  have hsm:∀ x∈E,(-1≤x.2.2.1∧x.2.2.1≤1)∧(-1≤x.2.2.2∧x.2.2.2≤1):=fun x hx=>by
   rw [← hEE] at hx
   rcases List.mem_append.1 hx with h | h
   ·have:=chg_all HSB.out HGP.out HCG.out h
    omega
   ·have:=clCg_small h
    omega
  rw [hEE] at hrow
  have HFA:=Lib.hid (afaults_any E (by omega) hsm w.heap.size u9 wr hB.out.size hrow.out)
  clear hie hEE hV hsm hrow
  go_wp2_with fail
  refine (HFA.out).mono ?_
  rintro e W9 ⟨srt,u,m,c,hp,hs,rfl,hr,hf,hb9⟩
  rw [← HEE.out] at hp
  have HF:=Lib.hid (show ClP S B l cls m c from .inr ⟨HZ.out,by rw [← goF_cl HSB.out HGP.out HZ.out HCG.out hp hs];exact hf⟩)
  have HR9:=Lib.hid hr
  have HB9:=Lib.hid (hB.out.trans hb9)
  clear hp hs hr hf hb9
  go_wp2
  go_ret2
  exact ⟨_,m,c,rfl,HR9.out,HF.out,HB9.out⟩
end Go.Proofs.YthhfmppealmblaaGreatDoor
namespace Go.Proofs.YthhfmppealmblaaGreatDoor
open Go.RowKit Go.Shelf
attribute [local go_sem] Oper.semAt_some
def pkP (S:Sp) (B:(Th→Int)→Pp→Bool) (l:List Ev) (ms:List Nat):Int × Int:=ms.foldl (fun a i=>if a.2<((sndL S B (onV (l.take (i+1)))).length:Int) then ((l.getD i ev0).1,((sndL S B (onV (l.take (i+1)))).length:Int)) else a) (0,0)
theorem pkP_snoc (S:Sp) (B:(Th→Int)→Pp→Bool) (l:List Ev) (ms:List Nat) (i:Nat):pkP S B l (ms++[i])=if (pkP S B l ms).2<((sndL S B (onV (l.take (i+1)))).length:Int) then ((l.getD i ev0).1,((sndL S B (onV (l.take (i+1)))).length:Int)) else pkP S B l ms:=by
 unfold pkP
 rw [List.foldl_append]
 rfl
def pkV (S:Sp) (B:(Th→Int)→Pp→Bool) (l:List Ev):Int × Int:=if audE S l=0 then pkP S B l (momI l l.length) else (0,0)
theorem sndL_nodup (S:Sp) (B:(Th→Int)→Pp→Bool) (f:Th→Int):(sndL S B f).Nodup:=by
 unfold sndL
 exact List.Pairwise.filter _ ((asc_allFrom _ _).imp fun {a b} h e=>by subst e;exact ppLt_irrefl _ h)
theorem snd_len {S:Sp} (hc:(checkP S).2=0) {B:(Th→Int)→Pp→Bool} (hB:SndIs S B) {f:Th→Int} {m:List Pp} (hn:m.Nodup) (hm:∀ p,p∈m ↔ Snd S f p):m.length=(sndL S B f).length:=by
 have hsg:=spGood hc
 have hmem:∀ p,p∈m ↔ p∈sndL S B f:=fun p=>by
  unfold sndL
  rw [List.mem_filter,hm p]
  exact ⟨fun h=>⟨snd_all (fun x hx key=>hsg.plays hx) h,(hB f p).2 h⟩,fun h=>(hB f p).1 h.2⟩
 exact Nat.le_antisymm (nodup_lenP hn fun p hp=>(hmem p).1 hp) (nodup_lenP (sndL_nodup S B f) fun p hp=>(hmem p).2 hp)
structure PkI (w:World) (TB MB:Nat) (S:Sp) (B:(Th→Int)→Pp→Bool) (l:List Ev) (pre:List MoX) (W:World):Prop where
 t:Boxed W TB 2 (.int .i64 (pkP S B l (pre.map (·.1))).1)
 m:Boxed W MB 3 (.int .i64 (pkP S B l (pre.map (·.1))).2)
 be:Below w.heap.size w W
theorem PkI.turn {w:World} {TB MB D:Nat} {S:Sp} {B:(Th→Int)→Pp→Bool} {l:List Ev} {pre:List MoX} {A A':World} {row:Option Nat} (h:PkI w TB MB S B l pre A) (hD:w.heap.size≤D) (hg:A.grownBy A' row) (ht:Turn 134 D A row):PkI w TB MB S B l pre A' :=
 ⟨Boxed.turn h.t hg ht (by decide),Boxed.turn h.m hg ht (by decide),h.be.grown hg h.be.size (fun r e=>Nat.le_trans hD (ht r e).1)⟩
def PkE (S:Sp) (B:(Th→Int)→Pp→Bool) (l:List Ev) (w:World) (e:Ending) (w':World):Prop:=e = .returned (.tuple #[.int .i64 (pkV S B l).1,.int .i64 (pkV S B l).2,.int .i64 (audE S l)])∧Below w.heap.size w w'
theorem mark_retC {F:Fence} {n:Nat} {P:Program} {fn:Func} {R:Ending→World→Prop} {a:Act} {D:Nat} {W:World} {v:Value} (hK:W.heap[D]?=some (.deferred (some []))) (hd:a.defers=[{ target:=.collected D,args:=#[] }]) (hr:(results fn a.tmps).run P (W.putObj D (.deferred none)) = .ok v (W.putObj D (.deferred none))) (hR:R (.returned v) (W.putObj D (.deferred none))):bodyPostM F n P fn R .ret a W:=by
 show LeavesInM F n P fn a.tmps R a.defers .returning W
 rw [hd]
 exact leaves_marks (B:=0) [D] W ⟨by simp,fun E hE=>by rw [List.mem_singleton.1 hE];exact ⟨Nat.zero_le _,hK⟩⟩ ⟨v,hr,hR⟩
theorem int64_not_kept:¬ keptT 2:=by unfold keptT;decide
theorem int_not_kept:¬ keptT 3:=by unfold keptT;decide
set_option maxRecDepth 100000 in
set_option maxHeartbeats 12800000 in
theorem peak_in (n:Nat) (hn:6≤n) (v1 v2 v3 v4:Value) (S:Sp) (ok:SpOk S) (fp:Nat→Value) (l:List Ev) (vl:Value) (B:(Th→Int)→Pp→Bool) (hB:SndIs S B) (w:World) (t:Tabs w) (hsp:SpRd w v1 v2 v3 v4 fp S) (hlv:ARd w vl 5 (l.map evC)) (hE:audE S l=0) :
  CallsIn Fence.wide n Tryz.prog 28 #[.agg #[v1,v2,v3,v4],vl] w (PkE S B l w):=by
 obtain ⟨hc,hR⟩:=audE_parts hE
 obtain ⟨hll,hgood⟩:=(recE_iff hc).1 hR
 obtain ⟨al,cl,evl⟩:=hlv.evForm
 subst evl
 have hal:=(Below.refl _ w).alloc (Nat.le_refl w.heap.size) (.cells #[v1,v2,v3,v4] 27)
 have hal1:Below w.heap.size w ((((w.alloc (.cells #[v1,v2,v3,v4] 27)).alloc (.cells #[.int .i64 0] 2)).alloc (.cells #[.int .i64 0] 3)).alloc (.cells #[.slice al l.length cl] 28)):=((hal.alloc (by simp) _).alloc (by simp;omega) _).alloc (by simp;omega) _
 have hk1:=(((Blk.new w 27 #[v1,v2,v3,v4]).alloc (.cells #[.int .i64 0] 2)).alloc (.cells #[.int .i64 0] 3)).alloc (.cells #[.slice al l.length cl] 28)
 have hk2:=((Boxed.new (w.alloc (.cells #[v1,v2,v3,v4] 27)) 2 (.int .i64 0)).alloc (.cells #[.int .i64 0] 3)).alloc (.cells #[.slice al l.length cl] 28)
 have hk3:=(Boxed.new ((w.alloc (.cells #[v1,v2,v3,v4] 27)).alloc (.cells #[.int .i64 0] 2)) 3 (.int .i64 0)).alloc (.cells #[.slice al l.length cl] 28)
 have hk4:=Blk.new (((w.alloc (.cells #[v1,v2,v3,v4] 27)).alloc (.cells #[.int .i64 0] 2)).alloc (.cells #[.int .i64 0] 3)) 28 #[.slice al l.length cl]
 rw [World.size_alloc] at hk2
 rw [World.size_alloc,World.size_alloc] at hk3
 rw [World.size_alloc,World.size_alloc,World.size_alloc] at hk4
 have HCK:=Lib.hid (acheck_any v1 v2 v3 v4 S ok fp w.heap.size _ [(.slice al l.length cl,l)] _ (t.below hal1) (hsp.later hal1) hk1 (by simp) (fun x hx=>by rw [List.mem_singleton.1 hx];exact Nat.le_trans hll (by omega)) (evsR_one hk4 (hlv.later hal1)))
 rw [show ([(.slice al l.length cl,l)]:List (Value × List Ev)).map (·.2)=[l] from rfl,chkE_one,hE] at HCK
 have hba:Below (w.alloc (.cells #[v1,v2,v3,v4] 27)).heap.size (w.alloc (.cells #[v1,v2,v3,v4] 27)) ((((w.alloc (.cells #[v1,v2,v3,v4] 27)).alloc (.cells #[.int .i64 0] 2)).alloc (.cells #[.int .i64 0] 3)).alloc (.cells #[.slice al l.length cl] 28)):=(((Below.refl _ _).alloc (Nat.le_refl _) _).alloc (by simp only [World.size_alloc];omega) _).alloc (by simp only [World.size_alloc];omega) _
 have HBA:=Lib.hid hba
 have HKA:=Lib.hid (Blk.new w 27 #[v1,v2,v3,v4])
 have HSA:=Lib.hid (hsp.later hal)
 have HLA:=Lib.hid (hlv.later hal)
 have HZA:=Lib.hid (show (w.alloc (.cells #[v1,v2,v3,v4] 27)).heap.size=w.heap.size+1 from World.size_alloc ..)
 have K1:=Lib.hid hk1
 have K2:=Lib.hid hk2
 have K3:=Lib.hid hk3
 have HAL:=Lib.hid hal1
 have HSP:=Lib.hid hsp
 have HLV:=Lib.hid hlv
 have HG:=Lib.hid hgood
 have HE:=Lib.hid hE
 clear hba hal hal1 hk1 hk2 hk3 hk4 hsp hlv hgood ok t hE hR
 refine callsIn_of_wp_marks Tryz.func28 rfl trivial ?_ rfl
 simp only [Tryz.ntmps28,List.size_toArray,List.length_cons,List.length_nil,Nat.reduceAdd,Nat.reduceSub,Array.replicate_succ,Array.replicate_zero,List.push_toArray,List.append_toArray,List.nil_append,List.cons_append]
 gi_wp2_with fail
 obtain ⟨Wa,hWa⟩:∃ Wa,w.alloc (.cells #[v1,v2,v3,v4] 27)=Wa:=⟨_,rfl⟩
 rw [hWa] at HBA HKA HSA HLA HZA
 rw [hWa] at HCK K1 K2 K3 HAL ⊢
 clear hWa
 generalize ((Wa.alloc (.cells #[.int .i64 0] 2)).alloc (.cells #[.int .i64 0] 3)).alloc (.cells #[.slice al l.length cl] 28)=W0 at *
 refine ⟨trivial,(fun _=>by omega),?_⟩
 refine (callsIn_wide.2 HCK.out).mono ?_
 rintro e W3 ⟨rfl,hb⟩
 have HB3:=Lib.hid (below_step HAL.out hb)
 have HB03:=Lib.hid hb
 have L1:=Lib.hid (K1.out.below hb)
 have L2:=Lib.hid (show Boxed W3 (w.heap.size+1) 2 (.int .i64 0) from (hb.block _ K2.out.lt).trans K2.out)
 have L3:=Lib.hid (show Boxed W3 (w.heap.size+1+1) 3 (.int .i64 0) from (hb.block _ K3.out.lt).trans K3.out)
 clear hb K1 K2 K3 HAL HCK
 gi_wp2_with fail
 refine ⟨trivial,(fun _=>by omega),?_⟩
 refine (callsIn_wide.2 (moments_any al l.length cl w.heap.size _)).mono ?_
 rintro e W4 ⟨rfl,hbs,hbl,hb4⟩
 have HB4:=Lib.hid (below_step HB3.out hb4)
 have hsz4:=HB4.out.size
 have HI0:=Lib.hid (show PkI w (w.heap.size+1) (w.heap.size+1+1) S B l [] W4 from ⟨(hb4.block _ L2.out.lt).trans L2.out,(hb4.block _ L3.out.lt).trans L3.out,HB4.out⟩)
 have HBA4:=Lib.hid (below_step (below_step HBA.out (HB03.out)) hb4)
 have HSEQ:=Lib.hid (moments_seq (n-1) (by omega) Wa v1 v2 v3 v4 fp S hc w.heap.size l al cl hll HG.out HSA.out HKA.out HLA.out _ _ W4 HBA4.out hbs hbl)
 have hza4:=HBA4.out.size
 clear hbs hbl hb4 L1 L2 L3 HB3 HB03 HBA
 gi_wp2_with fail
 refine' wpIn_range_Tf rfl (by omega) (gf:=89) (lb:=#[.pointer (some ⟨W3.heap.size,0,none⟩),.pointer (some ⟨W3.heap.size+1,0,none⟩)]) rfl trivial (enters_of Tryz.func89 (by kernel_rfl) rfl) HSEQ.out (KpM.refl _) (fun h k=>h.trans k) (fun W k o o' h1 h2 h3=>KpM.put (Nat.le_trans hza4 h1) h2 h3) (fun _=>rfl) (PkI w (w.heap.size+1) (w.heap.size+1+1) S B l) (fun s A A' row hs hgr ht=>hs.turn hsz4 hgr ht) HI0.out _ (fun pre x W k o o' h1 h2 h3 h4=>h4.put (Nat.le_trans hza4 h1) h2 h3) ?assign ?body ?done
 case assign =>
  intro ly x W K hK
  dsimp only [moE]
  gi_wp2
  exact hK
 case body =>
  intro ly pre x W hsW hI hP
  obtain ⟨i,PL⟩:=x
  have hil:=hP.lt
  dsimp only at hil
  obtain ⟨tk,htk⟩:∃ z,(l.getD i ev0).1=z:=⟨_,rfl⟩
  obtain ⟨f,hfe⟩:∃ f,onV (l.take (i+1))=f:=⟨_,rfl⟩
  have hpx:=hP.py.px
  dsimp only at hpx
  rw [htk,hfe] at hpx
  have hf:OnOk S f:=by rw [← hfe];exact onOk_upto hc (by omega) (fun j hj=>HG.out j (by omega))
  have hba:=hP.py.be
  have HSO:=Lib.hid (sounding_any v1 v2 v3 v4 S hc fp w.heap.size PL f tk hf W (HSA.out.later hba) (HKA.out.below hba) hpx)
  have HPP:=Lib.hid (pkP_snoc S B l (pre.map (·.1)) i)
  rw [htk,hfe] at HPP
  obtain ⟨⟨t0,m0⟩,htm⟩:∃ q,pkP S B l (pre.map (·.1))=q:=⟨_,rfl⟩
  have HIT:=Lib.hid hI.t
  have HIM:=Lib.hid hI.m
  have HIB:=Lib.hid hI.be
  have HBA5:=Lib.hid hba
  rw [htm] at HPP HIT HIM
  dsimp only at HPP HIT HIM
  have htk2:(l[i]?.getD ev0).1=tk:=by rw [← htk,List.getD_eq_getElem?_getD]
  dsimp only
  rw [htk2]
  clear htk2 htk hfe hpx hf hP hI hba htm
  gi_wp2_with fail
  refine ⟨trivial,(fun _=>by omega),?_⟩
  refine ((callsIn_wide.2 HSO.out).inRound ly).mono ?_
  rintro e W1 ⟨mb2,now,rfl,_,hmp,hnd,hmem,hb1⟩
  have HLN:=Lib.hid (snd_len hc hB hnd hmem)
  have hln:=run_len_mp hmp 131 3 45 4 Tryz.underlying131
  rw [show (setM now).length=now.length from List.length_map ..] at hln
  have hna:=HZA.out
  have hn0:Wa.heap.size≤W.heap.size:=HBA5.out.size
  have rd1:=(RdK.refl Wa.heap.size W).below hn0 hb1
  have hT1:Boxed W1 (w.heap.size+1) 2 (.int .i64 t0):=(hb1.block _ HIT.out.lt).trans HIT.out
  have hM1:Boxed W1 (w.heap.size+1+1) 3 (.int .i64 m0):=(hb1.block _ HIM.out.lt).trans HIM.out
  have hB1:=below_step HIB.out hb1
  have g1:=set_grown W1 (w.heap.size+1) 0 (.int .i64 tk)
  have g2:=set_grown (W1.setCell ⟨w.heap.size+1,0,none⟩ (.int .i64 tk)) (w.heap.size+1+1) 0 (.int .i64 now.length)
  have hM2:=hM1.kept g1 (by intro e;injection e with e;omega)
  have hT2:=(hT1.set (.int .i64 tk)).kept g2 (by intro e;injection e with e;omega)
  have rd2:=(rd1.grown hn0 g1 (fun r e=>by cases e;exact ⟨by omega,.inr ⟨_,_,_,hT1,int64_not_kept⟩⟩)).grown hn0 g2 (fun r e=>by cases e;exact ⟨by omega,.inr ⟨_,_,_,hM2,int_not_kept⟩⟩)
  have hB2:=(hB1.grown g1 hB1.size (fun r e=>by cases e;omega)).grown g2 (by have:=hB1.size;simpa using this) (fun r e=>by cases e;omega)
  have hPP:=HPP.out
  rw [← HLN.out] at hPP
  have HYES:=Lib.hid (fun (h:m0<(now.length:Int))=>(⟨rd2.ko.from W4.heap.size,rd2.kp,⟨by rw [List.map_append,List.map_cons,List.map_nil,hPP,if_pos h];exact hT2,by rw [List.map_append,List.map_cons,List.map_nil,hPP,if_pos h];exact hM2.set _,hB2⟩⟩:KeepsFrom W4.heap.size W ((W1.setCell ⟨w.heap.size+1,0,none⟩ (.int .i64 tk)).setCell ⟨w.heap.size+1+1,0,none⟩ (.int .i64 now.length))∧KpM Wa.heap.size W ((W1.setCell ⟨w.heap.size+1,0,none⟩ (.int .i64 tk)).setCell ⟨w.heap.size+1+1,0,none⟩ (.int .i64 now.length))∧PkI w (w.heap.size+1) (w.heap.size+1+1) S B l (pre++[(i,PL)]) ((W1.setCell ⟨w.heap.size+1,0,none⟩ (.int .i64 tk)).setCell ⟨w.heap.size+1+1,0,none⟩ (.int .i64 now.length))))
  have HNO:=Lib.hid (fun (h:¬ m0<(now.length:Int))=>(⟨rd1.ko.from W4.heap.size,rd1.kp,⟨by rw [List.map_append,List.map_cons,List.map_nil,hPP,if_neg h];exact hT1,by rw [List.map_append,List.map_cons,List.map_nil,hPP,if_neg h];exact hM1,hB1⟩⟩:KeepsFrom W4.heap.size W W1∧KpM Wa.heap.size W W1∧PkI w (w.heap.size+1) (w.heap.size+1+1) S B l (pre++[(i,PL)]) W1))
  have c4:=hT1.cell
  have f4:=hT1.frozen
  have c5:=hM1.cell
  have f5:=hM1.frozen
  have c6:=hM2.cell
  have f6:=hM2.frozen
  clear hmp hnd hmem hb1 rd1 rd2 hT1 hM1 hB1 g1 g2 hM2 hT2 hB2 hPP HPP HIT HIM HIB HBA5 HSO HLN hn0 hna
  by_cases hlt:m0<(now.length:Int)
  ·have HF:=Lib.hid (HYES.out hlt)
   gi_wp2
   exact HF.out
  ·have HF:=Lib.hid (HNO.out hlt)
   gi_wp2
   exact HF.out
 case done =>
  intro D xs W hD hS hI hK
  have c4:=hI.t.cell
  have f4:=hI.t.frozen
  have c5:=hI.m.cell
  have f5:=hI.m.frozen
  rw [hS] at c4 c5
  obtain ⟨⟨t0,m0⟩,htm⟩:∃ q,pkP S B l (momI l l.length)=q:=⟨_,rfl⟩
  rw [htm] at c4 c5
  dsimp only at c4 c5
  have HPV:=Lib.hid (show pkV S B l=(t0,m0) by unfold pkV;rw [if_pos HE.out];exact htm)
  have HIT:=Lib.hid hI.t
  have HIM:=Lib.hid hI.m
  rw [hS,htm] at HIT HIM
  have HIB:=Lib.hid hI.be
  have HK:=Lib.hid hK
  clear htm hS hI hK
  dsimp only
  gi_upto_region 10 with fail
  refine wpIn_normal (wpIn_wide.2 ?_)
  go_region
  have hDB:w.heap.size+1+1<D:=Nat.lt_of_lt_of_le HI0.out.m.lt hD
  have g1:=set_grown W (w.heap.size+1) 0 (.int .i64 t0)
  have g2:=set_grown (W.setCell ⟨w.heap.size+1,0,none⟩ (.int .i64 t0)) (w.heap.size+1+1) 0 (.int .i64 m0)
  have hM2:=HIM.out.kept g1 (by intro e;injection e with e;omega)
  have hT2:=(HIT.out.set (.int .i64 t0)).kept g2 (by intro e;injection e with e;omega)
  have hM3:=hM2.set (.int .i64 m0)
  have hKD:((W.setCell ⟨w.heap.size+1,0,none⟩ (.int .i64 t0)).setCell ⟨w.heap.size+1+1,0,none⟩ (.int .i64 m0)).heap[D]?=some (.deferred (some [])):=(g2.block D (Nat.lt_of_lt_of_le (Array.getElem?_eq_some_iff.1 HK.out).1 g1.size) (by intro e;injection e with e;omega)).trans ((g1.block D (Array.getElem?_eq_some_iff.1 HK.out).1 (by intro e;injection e with e;omega)).trans HK.out)
  have hB2:=(HIB.out.grown g1 HIB.out.size (fun r e=>by cases e;omega)).grown g2 (Nat.le_trans HIB.out.size g1.size) (fun r e=>by cases e;omega)
  have HKD:=Lib.hid (show (((W.setCell ⟨w.heap.size+1,0,none⟩ (.int .i64 t0)).setCell ⟨w.heap.size+1+1,0,none⟩ (.int .i64 m0)).drew).heap[D]?=some (.deferred (some [])) from hKD)
  have HB9:=Lib.hid (show Below w.heap.size w (((W.setCell ⟨w.heap.size+1,0,none⟩ (.int .i64 t0)).setCell ⟨w.heap.size+1+1,0,none⟩ (.int .i64 m0)).drew) from hB2.drew)
  have HT9:=Lib.hid (show Boxed (((W.setCell ⟨w.heap.size+1,0,none⟩ (.int .i64 t0)).setCell ⟨w.heap.size+1+1,0,none⟩ (.int .i64 m0)).drew) (w.heap.size+1) 2 (.int .i64 t0) from hT2)
  have HM9:=Lib.hid (show Boxed (((W.setCell ⟨w.heap.size+1,0,none⟩ (.int .i64 t0)).setCell ⟨w.heap.size+1+1,0,none⟩ (.int .i64 m0)).drew) (w.heap.size+1+1) 3 (.int .i64 m0) from hM3)
  generalize ((W.setCell ⟨w.heap.size+1,0,none⟩ (.int .i64 t0)).setCell ⟨w.heap.size+1+1,0,none⟩ (.int .i64 m0)).drew=W9 at *
  clear g1 g2 hM2 hT2 hM3 hKD hB2 c4 f4 c5 f5
  have gP:=grownBy_putObj' W9 D (.deferred none)
  have cT:=(HT9.out.kept gP (by intro e;injection e with e;omega)).cell
  have cM:=(HM9.out.kept gP (by intro e;injection e with e;omega)).cell
  have HF:=Lib.hid (show PkE S B l w (.returned (.tuple #[.int .i64 t0,.int .i64 m0,.int .i64 0])) (W9.putObj D (.deferred none)) from ⟨by rw [HPV.out,HE.out],HB9.out.grown gP HB9.out.size (fun r e=>by cases e;omega)⟩)
  clear gP hDB
  gi_wp2_with fail
  exact mark_retC HKD.out rfl (by simp [results,Tryz.results28,go_sem,cT,cM]) HF.out
set_option maxRecDepth 100000 in
set_option maxHeartbeats 3200000 in
theorem peak_bad (v1 v2 v3 v4:Value) (S:Sp) (ok:SpOk S) (fp:Nat→Value) (l:List Ev) (vl:Value) (B:(Th→Int)→Pp→Bool) (w:World) (t:Tabs w) (hsp:SpRd w v1 v2 v3 v4 fp S) (hlv:ARd w vl 5 (l.map evC)) (hl:l.length≤1000000) (hE:audE S l≠0) :
  Calls Tryz.prog 28 #[.agg #[v1,v2,v3,v4],vl] w (PkE S B l w):=by
 obtain ⟨al,cl,evl⟩:=hlv.evForm
 subst evl
 have hal:=(Below.refl _ w).alloc (Nat.le_refl w.heap.size) (.cells #[v1,v2,v3,v4] 27)
 have hal1:Below w.heap.size w ((((w.alloc (.cells #[v1,v2,v3,v4] 27)).alloc (.cells #[.int .i64 0] 2)).alloc (.cells #[.int .i64 0] 3)).alloc (.cells #[.slice al l.length cl] 28)):=((hal.alloc (by simp) _).alloc (by simp;omega) _).alloc (by simp;omega) _
 have hk1:=(((Blk.new w 27 #[v1,v2,v3,v4]).alloc (.cells #[.int .i64 0] 2)).alloc (.cells #[.int .i64 0] 3)).alloc (.cells #[.slice al l.length cl] 28)
 have hk2:=((Boxed.new (w.alloc (.cells #[v1,v2,v3,v4] 27)) 2 (.int .i64 0)).alloc (.cells #[.int .i64 0] 3)).alloc (.cells #[.slice al l.length cl] 28)
 have hk3:=(Boxed.new ((w.alloc (.cells #[v1,v2,v3,v4] 27)).alloc (.cells #[.int .i64 0] 2)) 3 (.int .i64 0)).alloc (.cells #[.slice al l.length cl] 28)
 have hk4:=Blk.new (((w.alloc (.cells #[v1,v2,v3,v4] 27)).alloc (.cells #[.int .i64 0] 2)).alloc (.cells #[.int .i64 0] 3)) 28 #[.slice al l.length cl]
 rw [World.size_alloc] at hk2
 rw [World.size_alloc,World.size_alloc] at hk3
 rw [World.size_alloc,World.size_alloc,World.size_alloc] at hk4
 have HCK:=Lib.hid (acheck_any v1 v2 v3 v4 S ok fp w.heap.size _ [(.slice al l.length cl,l)] _ (t.below hal1) (hsp.later hal1) hk1 (by simp) (fun x hx=>by rw [List.mem_singleton.1 hx];exact hl) (evsR_one hk4 (hlv.later hal1)))
 rw [show ([(.slice al l.length cl,l)]:List (Value × List Ev)).map (·.2)=[l] from rfl,chkE_one] at HCK
 have K2:=Lib.hid hk2
 have K3:=Lib.hid hk3
 have HAL:=Lib.hid hal1
 have HPV:=Lib.hid (show pkV S B l=(0,0) by unfold pkV;rw [if_neg hE])
 obtain ⟨e0,he0⟩:∃ e0,audE S l=e0:=⟨_,rfl⟩
 rw [he0] at HCK hE
 have HE:=Lib.hid he0
 have q1:(e0==0)=false:=by simpa using hE
 clear hal hal1 hk1 hk2 hk3 hk4 hsp hlv ok t he0 hE
 go_enter Tryz.func28,Tryz.ntmps28
 go_wp2_with fail
 generalize (((w.alloc (.cells #[v1,v2,v3,v4] 27)).alloc (.cells #[.int .i64 0] 2)).alloc (.cells #[.int .i64 0] 3)).alloc (.cells #[.slice al l.length cl] 28)=W0 at *
 refine (HCK.out).mono ?_
 rintro e W ⟨rfl,hb⟩
 have HB3:=Lib.hid (below_step HAL.out hb)
 have hT:=(show Boxed W (w.heap.size+1) 2 (.int .i64 0) from (hb.block _ K2.out.lt).trans K2.out)
 have hM:=(show Boxed W (w.heap.size+1+1) 3 (.int .i64 0) from (hb.block _ K3.out.lt).trans K3.out)
 have c4:=hT.cell
 have f4:=hT.frozen
 have c5:=hM.cell
 have f5:=hM.frozen
 have g1:=set_grown W (w.heap.size+1) 0 (.int .i64 0)
 have g2:=set_grown (W.setCell ⟨w.heap.size+1,0,none⟩ (.int .i64 0)) (w.heap.size+1+1) 0 (.int .i64 0)
 have hM2:=hM.kept g1 (by intro e;injection e with e;omega)
 have hT2:=(hT.set (.int .i64 0)).kept g2 (by intro e;injection e with e;omega)
 have HT9:=Lib.hid hT2
 have HM9:=Lib.hid (hM2.set (.int .i64 0))
 have HB9:=Lib.hid ((HB3.out.grown g1 HB3.out.size (fun r e=>by cases e;omega)).grown g2 (Nat.le_trans HB3.out.size g1.size) (fun r e=>by cases e;omega))
 have c6:=hM2.cell
 have f6:=hM2.frozen
 clear hb hT hM g1 g2 hM2 hT2 HCK K2 K3 HAL
 go_wp2_with fail
 have cT:=HT9.out.cell
 have cM:=HM9.out.cell
 refine bodyPost_ret (v:=.tuple #[.int .i64 0,.int .i64 0,.int .i64 e0]) (by simp [results,Tryz.results28,go_sem,cT,cM]) rfl ⟨by rw [HPV.out,HE.out],HB9.out⟩
theorem peak_any (v1 v2 v3 v4:Value) (S:Sp) (ok:SpOk S) (fp:Nat→Value) (l:List Ev) (vl:Value) (B:(Th→Int)→Pp→Bool) (hB:SndIs S B) (w:World) (t:Tabs w) (hsp:SpRd w v1 v2 v3 v4 fp S) (hlv:ARd w vl 5 (l.map evC)) (hl:l.length≤1000000) :
  Calls Tryz.prog 28 #[.agg #[v1,v2,v3,v4],vl] w (PkE S B l w):=by
 by_cases hE:audE S l=0
 ·exact callsIn_wide.1 (peak_in 6 (Nat.le_refl 6) v1 v2 v3 v4 S ok fp l vl B hB w t hsp hlv hE)
 ·exact peak_bad v1 v2 v3 v4 S ok fp l vl B w t hsp hlv hl hE
end Go.Proofs.YthhfmppealmblaaGreatDoor
namespace Go.Proofs.YthhfmppealmblaaGreatDoor
open Go.RowKit
def exS (c:Int):Sp where
 ds:=[⟨⟨#[103,114,101,97,116]⟩,36,60⟩]
 rs:=[⟨⟨#[102,108,117,116,101]⟩,2,8,1,36,c⟩,⟨⟨#[114,101,101,100]⟩,4,8,1,36,13⟩]
 ss:=[⟨⟨#[102,108,117,116,101,56]⟩,0,8,1,[⟨0,0,36,60⟩]⟩,⟨⟨#[102,108,117,116,101,52]⟩,0,4,1,[⟨0,12,36,60⟩]⟩,⟨⟨#[98,97,115,115]⟩,0,8,1,[⟨1,0,36,48⟩]⟩]
 cs:=[⟨⟨#[111,99,116,97,118,101]⟩,0,0,12,0,false⟩]
theorem exS_ok (c:Int):SpOk (exS c):=⟨by show 1≤1000;omega,by show 2≤1000;omega,by show 3≤1000;omega,by show 1≤1000;omega,by
 intro x hx;simp only [exS,List.mem_singleton] at hx;subst hx;decide,by
 intro x hx;simp only [exS,List.mem_cons,List.mem_nil_iff,or_false] at hx;rcases hx with rfl | rfl;exact (by decide:(5:Nat)≤1000);exact (by decide:(4:Nat)≤1000),by
 intro x hx;simp only [exS,List.mem_cons,List.mem_nil_iff,or_false] at hx;rcases hx with rfl | rfl | rfl <;> decide,by
 intro x hx;simp only [exS,List.mem_singleton] at hx;subst hx;decide,by
 intro x hx;simp only [exS,List.mem_cons,List.mem_nil_iff,or_false] at hx;rcases hx with rfl | rfl | rfl <;> decide⟩
theorem ARd.of_blk {W:World} {B:Nat} {t:TypeId} {cs:Array Value} (h:Blk W B t cs) {k:Nat} {rows:List (List Value)} (hk:∀ r∈rows,r.length=k) (hcs:cs.toList=rows.flatten) (n c:Nat) (hn:n=rows.length):ARd W (.slice (some ⟨B,0,none⟩) n c) k rows:=by
 subst hn
 refine ⟨_,_,rfl,fun i hi=>⟨B,0,rfl,h.lt,fun j u hj=>?_⟩⟩
 have hjk:j<k:=by
  have:=(List.getElem?_eq_some_iff.1 hj).1
  rwa [hk _ (List.getElem_mem hi)] at this
 have e:=flat_get rows hk i hi j hjk
 rw [hj,← hcs,Array.getElem?_toList] at e
 rw [Nat.zero_add,h.cell,e]
structure ExMem (W:World) (b:Nat) (c:Int):Prop where
 d:Blk W (b+3) 84 #[.string ⟨#[103,114,101,97,116]⟩,.int .i64 36,.int .i64 60]
 r:Blk W (b+4) 107 #[.string ⟨#[102,108,117,116,101]⟩,.int .i64 2,.int .i64 8,.int .i64 1,.int .i64 36,.int .i64 c,.string ⟨#[114,101,101,100]⟩,.int .i64 4,.int .i64 8,.int .i64 1,.int .i64 36,.int .i64 13]
 p0:Blk W (b+5) 148 #[.int .i64 0,.int .i64 0,.int .i64 36,.int .i64 60]
 p1:Blk W (b+6) 148 #[.int .i64 0,.int .i64 12,.int .i64 36,.int .i64 60]
 p2:Blk W (b+7) 148 #[.int .i64 1,.int .i64 0,.int .i64 36,.int .i64 48]
 s:Blk W (b+8) 151 #[.string ⟨#[102,108,117,116,101,56]⟩,.int .i64 0,.int .i64 8,.int .i64 1,.slice (some ⟨b+5,0,none⟩) 1 1,.string ⟨#[102,108,117,116,101,52]⟩,.int .i64 0,.int .i64 4,.int .i64 1,.slice (some ⟨b+6,0,none⟩) 1 1,.string ⟨#[98,97,115,115]⟩,.int .i64 0,.int .i64 8,.int .i64 1,.slice (some ⟨b+7,0,none⟩) 1 1]
 c:Blk W (b+9) 153 #[.string ⟨#[111,99,116,97,118,101]⟩,.int .i64 0,.int .i64 0,.int .i64 12,.int .i64 0,.bool false]
theorem ExMem.below {W W':World} {b:Nat} {c:Int} (h:ExMem W b c) (hb:Below W.heap.size W W'):ExMem W' b c:=⟨h.d.below hb,h.r.below hb,h.p0.below hb,h.p1.below hb,h.p2.below hb,h.s.below hb,h.c.below hb⟩
theorem ExMem.rd {W:World} {b:Nat} {c:Int} (h:ExMem W b c):SpRd W (.slice (some ⟨b+3,0,none⟩) 1 1) (.slice (some ⟨b+4,0,none⟩) 2 2) (.slice (some ⟨b+8,0,none⟩) 3 3) (.slice (some ⟨b+9,0,none⟩) 1 1) (fun i => .slice (some ⟨b+5+i,0,none⟩) 1 1) (exS c) where
 d:=ARd.of_blk (k:=3) (rows:=(exS c).ds.map dvC) h.d (by intro r hr;obtain ⟨x,_,rfl⟩:=List.mem_map.1 hr;rfl) rfl _ _ rfl
 r:=ARd.of_blk (k:=6) (rows:=(exS c).rs.map rkC) h.r (by intro r hr;obtain ⟨x,_,rfl⟩:=List.mem_map.1 hr;rfl) rfl _ _ rfl
 s:=ARd.of_blk (k:=5) (rows:=(exS c).ss.mapIdx fun i x=>stC x (.slice (some ⟨b+5+i,0,none⟩) 1 1)) h.s (by intro r hr;obtain ⟨i,hi,rfl⟩:=List.mem_mapIdx.1 hr;rfl) rfl _ _ rfl
 c:=ARd.of_blk (k:=6) (rows:=(exS c).cs.map cpC) h.c (by intro r hr;obtain ⟨x,_,rfl⟩:=List.mem_map.1 hr;rfl) rfl _ _ rfl
 p i hi:=by
  have hi':i<3:=hi
  match i,hi' with
  | 0,_=>exact ARd.of_blk (k:=4) (rows:=[ptC ⟨0,0,36,60⟩]) h.p0 (by intro r hr;rw [List.mem_singleton.1 hr];rfl) rfl _ _ rfl
  | 1,_=>exact ARd.of_blk (k:=4) (rows:=[ptC ⟨0,12,36,60⟩]) h.p1 (by intro r hr;rw [List.mem_singleton.1 hr];rfl) rfl _ _ rfl
  | 2,_=>exact ARd.of_blk (k:=4) (rows:=[ptC ⟨1,0,36,48⟩]) h.p2 (by intro r hr;rw [List.mem_singleton.1 hr];rfl) rfl _ _ rfl
def ExEnds (w:World) (e:Ending) (w':World):Prop:=e = .returned (.agg #[.slice (some ⟨w.heap.size+3,0,none⟩) 1 1,.slice (some ⟨w.heap.size+4,0,none⟩) 2 2,.slice (some ⟨w.heap.size+8,0,none⟩) 3 3,.slice (some ⟨w.heap.size+9,0,none⟩) 1 1])∧ExMem w' w.heap.size 37∧Below w.heap.size w w'
theorem blk_at {W:World} {B:Nat} {t:TypeId} {cs:Array Value} (hn:B=W.heap.size):Blk (W.alloc (.cells cs t)) B t cs:=by subst hn;exact Blk.new _ _ _
set_option maxRecDepth 100000 in
set_option maxHeartbeats 3200000 in
theorem example_any (w:World):Calls Tryz.prog 36 #[] w (ExEnds w):=by
 go_enter Tryz.func36,Tryz.ntmps36
 go_wp2
 refine bodyPost_ret (v:=.agg #[.slice (some ⟨w.heap.size+3,0,none⟩) 1 1,.slice (some ⟨w.heap.size+4,0,none⟩) 2 2,.slice (some ⟨w.heap.size+8,0,none⟩) 3 3,.slice (some ⟨w.heap.size+9,0,none⟩) 1 1]) (by simp [results,Tryz.results36,go_sem]) rfl ⟨rfl,⟨?_,?_,?_,?_,?_,?_,?_⟩,?_⟩
 ·exact ((((((blk_at (by simp)).alloc _).alloc _).alloc _).alloc _).alloc _).alloc _
 ·exact (((((blk_at (by simp)).alloc _).alloc _).alloc _).alloc _).alloc _
 ·exact ((((blk_at (by simp)).alloc _).alloc _).alloc _).alloc _
 ·exact (((blk_at (by simp)).alloc _).alloc _).alloc _
 ·exact ((blk_at (by simp)).alloc _).alloc _
 ·exact (blk_at (by simp)).alloc _
 ·exact blk_at (by simp)
 ·exact ((((((((((Below.refl _ w).alloc (Nat.le_refl _) _).alloc (by simp) _).alloc (by simp;omega) _).alloc (by simp;omega) _).alloc (by simp;omega) _).alloc (by simp;omega) _).alloc (by simp;omega) _).alloc (by simp;omega) _).alloc (by simp;omega) _).alloc (by simp;omega) _
end Go.Proofs.YthhfmppealmblaaGreatDoor
namespace Go.Proofs.YthhfmppealmblaaGreatDoor
open Go.RowKit
def cp00:Cp:=⟨⟨#[]⟩,0,0,0,0,false⟩
def st00:St:=⟨⟨#[]⟩,0,0,0,[]⟩
def actL (S:Sp) (f:Th→Int):List Pl :=
 (List.range S.ds.length).flatMap (fun (d:Nat)=>(playedL f (d:Int)).map fun k=>((d:Int),k)) ++
 (List.range S.cs.length).flatMap fun (i:Nat)=>if f (3,0,(i:Int))=1 then ((takes (S.cs.getD i cp00).only (playedL f (S.cs.getD i cp00).frm)).map fun k=>((S.cs.getD i cp00).to,k+(S.cs.getD i cp00).shift)).filter (keyOk S) else []
theorem mem_actL {S:Sp} {f:Th→Int} (ht:∀ c∈S.cs,c.thr=false) (q:Pl):q∈actL S f ↔ Acts S f q:=by
 constructor
 ·intro h
  unfold actL at h
  rcases List.mem_append.1 h with h | h
  ·obtain ⟨d,hd,h⟩:=List.mem_flatMap.1 h
   obtain ⟨k,hk,rfl⟩:=List.mem_map.1 h
   have:=List.mem_range.1 hd
   exact .key _ _ ⟨by omega,by omega⟩ hk
  ·obtain ⟨i,hi,h⟩:=List.mem_flatMap.1 h
   have hi2:=List.mem_range.1 hi
   rw [getD_at hi2] at h
   split at h
   ·rename_i hon
    obtain ⟨h1,h2⟩:=List.mem_filter.1 h
    obtain ⟨k,hk,rfl⟩:=List.mem_map.1 h1
    exact .cou i hi2 hon k hk h2
   ·cases h
 ·intro h
  refine act_in (Q:=fun q=>q∈actL S f) ?_ ?_ ?_ q h
  ·intro d k hd hk
   unfold actL
   refine List.mem_append_left _ (List.mem_flatMap.2 ⟨d.toNat,List.mem_range.2 (by omega),List.mem_map.2 ⟨k,?_,?_⟩⟩)
   ·rw [show ((d.toNat:Nat):Int)=d by omega];exact hk
   ·rw [show ((d.toNat:Nat):Int)=d by omega]
  ·intro i hi hon k hk ok
   unfold actL
   refine List.mem_append_right _ (List.mem_flatMap.2 ⟨i,List.mem_range.2 hi,?_⟩)
   rw [getD_at hi,if_pos hon]
   exact List.mem_filter.2 ⟨List.mem_map.2 ⟨k,hk,rfl⟩,ok⟩
  ·intro i hi _ htr
   rw [ht _ (List.getElem_mem hi)] at htr
   cases htr
def sndB (S:Sp) (f:Th→Int) (p:Pp):Bool:=(List.range S.ss.length).any fun (i:Nat)=>decide (f (2,0,(i:Int))=1) && (actL S f).any fun q=>decide (q.1=(S.ss.getD i st00).div) && keyOk S q && playsB (S.ss.getD i st00) q.2 p
theorem sndB_is {S:Sp} (ht:∀ c∈S.cs,c.thr=false):SndIs S (sndB S):=by
 intro f p
 unfold sndB Snd
 rw [List.any_eq_true]
 constructor
 ·rintro ⟨i,hi,h⟩
  have hi2:=List.mem_range.1 hi
  rw [getD_at hi2,Bool.and_eq_true,List.any_eq_true] at h
  obtain ⟨h1,⟨d,k⟩,h2,h3⟩:=h
  simp only [Bool.and_eq_true,decide_eq_true_iff] at h1 h3
  obtain ⟨⟨rfl,h4⟩,h5⟩:=h3
  exact ⟨i,hi2,h1,k,(mem_actL ht _).1 h2,h4,h5⟩
 ·rintro ⟨i,hi,h1,k,h2,h3,h4⟩
  refine ⟨i,List.mem_range.2 hi,?_⟩
  rw [getD_at hi,Bool.and_eq_true,List.any_eq_true]
  refine ⟨by simpa using h1,_,(mem_actL ht _).2 h2,?_⟩
  simp only [Bool.and_eq_true,decide_eq_true_iff]
  exact ⟨⟨trivial,h3⟩,h4⟩
def exEv:List Ev:=[(0,2,0,0,1),(10,1,0,40,1),(10,1,0,52,1),(20,3,0,0,1),(30,1,0,40,0),(40,5,0,7,0),(50,1,0,52,0)]
def exCl:List Cl:=[((0,40),10,30),((0,52),20,60)]
theorem exS_thr:∀ c∈(exS 37).cs,c.thr=false:=by decide
theorem ex_aud:audE (exS 37) exEv=0:=by decide +kernel
theorem ex_cls:clsE (exS 37) exEv exCl=0:=by decide +kernel
theorem ex_fa:faCl (exS 37) (sndB (exS 37)) exEv exCl=[(1,(0,52),10,20),(2,(0,52),50,60)]:=by decide +kernel
end Go.Proofs.YthhfmppealmblaaGreatDoor
namespace Go.Proofs.YthhfmppealmblaaGreatDoor
open Go.RowKit
theorem faV_eq (p q:Fa):(p.1==q.1 && ((p.2.1.1==q.2.1.1 && p.2.1.2==q.2.1.2) && (p.2.2.1==q.2.2.1 && p.2.2.2==q.2.2.2)))=decide (p=q):=by
 obtain ⟨a,⟨b,c⟩,d,e⟩:=p
 obtain ⟨a',⟨b',c'⟩,d',e'⟩:=q
 rw [Bool.eq_iff_iff]
 simp [Prod.mk.injEq]
theorem run_neFa (a b c d e a' b' c' d' e':Int) (w:World):(binOp .neq 52 (.agg #[.int .i64 a,.int .i64 b,.int .i64 c,.int .i64 d,.int .i64 e]) (.agg #[.int .i64 a',.int .i64 b',.int .i64 c',.int .i64 d',.int .i64 e'])).run Tryz.prog w = .ok (.bool (!(a==a' && ((b==b' && c==c') && (d==d' && e==e'))))) w:=by
 rw [run_neq_struct]
 rw [run_equalIn_agg w 9999 52 _ _ (by kernel_rfl) (by kernel_rfl)]
 simp only [Program.fieldsOf,Tryz.underlying52]
 simp [go_sem,Tryz.underlying3,Tryz.underlying2,part]
 by_cases h1:a=a' <;> by_cases h2:b=b' <;> by_cases h3:c=c' <;> by_cases h4:d=d' <;> by_cases h5:e=e' <;> simp [h1,h2,h3,h4,h5]
theorem neFa {p q:Fa} {b:Bool} (h:decide (p=q)=b) (w:World):(binOp .neq 52 (.agg #[.int .i64 p.1,.int .i64 p.2.1.1,.int .i64 p.2.1.2,.int .i64 p.2.2.1,.int .i64 p.2.2.2]) (.agg #[.int .i64 q.1,.int .i64 q.2.1.1,.int .i64 q.2.1.2,.int .i64 q.2.2.1,.int .i64 q.2.2.2])).run Tryz.prog w = .ok (.bool (!b)) w:=by rw [run_neFa,faV_eq,h]
theorem ARd.faAt {w:World} {v:Value} {l:List Fa} (h:ARd w v 5 (l.map faC)) (i:Nat) (hi:i<l.length):∃ b o c,v = .slice (some ⟨b,o,none⟩) l.length c∧b<w.heap.size∧w.cell? ⟨b,o+i * 5,none⟩=some (.int .i64 l[i].1)∧w.cell? ⟨b,o+i * 5+1,none⟩=some (.int .i64 l[i].2.1.1)∧w.cell? ⟨b,o+i * 5+2,none⟩=some (.int .i64 l[i].2.1.2)∧w.cell? ⟨b,o+i * 5+3,none⟩=some (.int .i64 l[i].2.2.1)∧w.cell? ⟨b,o+i * 5+4,none⟩=some (.int .i64 l[i].2.2.2):=by
 obtain ⟨b,o,c,e,hlt,hc⟩:=h.at i (by simpa using hi)
 rw [List.getElem_map] at hc
 rw [List.length_map] at e
 exact ⟨b,o,c,e,hlt,hc 0 _ rfl,hc 1 _ rfl,hc 2 _ rfl,hc 3 _ rfl,hc 4 _ rfl⟩
theorem ARd.faForm {w:World} {v:Value} {l:List Fa} (h:ARd w v 5 (l.map faC)):∃ a c,v = .slice a l.length c:=by
 obtain ⟨a,c,e⟩:=h.form
 exact ⟨a,c,by simpa using e⟩
def BoR (b:Bool) (w:World) (e:Ending) (w':World):Prop:=e = .returned (.bool b)∧Below w.heap.size w w'
set_option maxRecDepth 100000 in
set_option maxHeartbeats 3200000 in
theorem same_any (a b:List Fa) (va vb:Value) (w:World) (ha:ARd w va 5 (a.map faC)) (hb:ARd w vb 5 (b.map faC)) (hl:a.length≤1000000) :
  Calls Tryz.prog 16 #[va,vb] w (BoR (decide (a=b)) w):=by
 obtain ⟨aa,ca,eva⟩:=ha.faForm
 obtain ⟨ab,cb,evb⟩:=hb.faForm
 subst eva evb
 have HA:=Lib.hid ha
 have HB:=Lib.hid hb
 clear ha hb
 go_enter Tryz.func16,Tryz.ntmps16
 by_cases hln:a.length=b.length
 case neg =>
  have q1:((a.length:Int)==(b.length:Int))=false:=by rw [beq_eq_false_iff_ne];omega
  have HE:RowKit.Hid (decide (a=b)=false):=Lib.hid (decide_eq_false (fun q=>hln (congrArg List.length q)))
  have HW:=Lib.hid (Below.refl w.heap.size w)
  clear hln
  go_wp2
  go_ret
  exact ⟨by rw [HE.out];rfl,HW.out⟩
 have q1:((a.length:Int)==(b.length:Int))=true:=by rw [beq_iff_eq];omega
 have HLN:=Lib.hid hln
 have HV0:RowKit.Hid (∀ j (h1:j<a.length) (h2:j<b.length),j<0→a[j]=b[j]):=Lib.hid (fun j _ _ h=>absurd h (Nat.not_lt_zero _))
 have HW0:=Lib.hid (Below.refl w.heap.size w)
 obtain ⟨bl,hbl⟩:∃ n,b.length=n:=⟨_,rfl⟩
 rw [hbl] at q1 ⊢
 have HBL:=Lib.hid hbl
 clear hln hbl
 go_wp2
 go_loopw [5] (fun x wr=>∃ i:Nat,i≤a.length∧x = .int .i64 i∧RowKit.Hid (∀ j (h1:j<a.length) (h2:j<b.length),j<i→a[j]=b[j])∧RowKit.Hid (Below w.heap.size w wr)) (fun x _=>a.length-(intOf x).toNat)
 case atStart=>exact ⟨0,Nat.zero_le _,rfl,HV0,HW0⟩
 clear HV0 HW0
 obtain ⟨i,hi,rfl,hV,hW⟩:=hrel
 by_cases hil:i<a.length
 ·have hi2:(i:Int)<(a.length:Int):=by omega
  have hib:i<b.length:=by rw [← HLN.out];exact hil
  have hi3:(i:Int)<(bl:Int):=by have:=HBL.out;omega
  obtain ⟨b1,o1,c1,ev,hbl,k0,k1,k2,k3,k4⟩:=(HA.out.later hW.out).faAt i hil
  cases ev
  obtain ⟨b2,o2,c2,ev,hbl2,m0,m1,m2,m3,m4⟩:=(HB.out.later hW.out).faAt i hib
  rw [HBL.out] at ev
  cases ev
  have HX:=Lib.hid (show a[i]=b[i]→∀ j (h1:j<a.length) (h2:j<b.length),j<i+1→a[j]=b[j] from fun h j h1 h2 hj=>by
   rcases Nat.lt_or_ge j i with q | q
   ·exact hV.out j h1 h2 q
   ·have:j=i:=by omega
    subst this
    exact h)
  have HY:=Lib.hid (show a[i]≠b[i]→a≠b from fun h q=>h (by subst q;rfl))
  obtain ⟨⟨x0,⟨x1,x2⟩,x3,x4⟩,hx⟩:∃ x,a[i]=x:=⟨_,rfl⟩
  obtain ⟨⟨y0,⟨y1,y2⟩,y3,y4⟩,hy⟩:∃ y,b[i]=y:=⟨_,rfl⟩
  rw [hx] at k0 k1 k2 k3 k4 HX HY
  rw [hy] at m0 m1 m2 m3 m4 HX HY
  dsimp only at k0 k1 k2 k3 k4 m0 m1 m2 m3 m4
  clear hx hy hV hbl hbl2 hib
  obtain ⟨bb,hbb⟩:∃ bb,decide (((x0,(x1,x2),x3,x4):Fa)=(y0,(y1,y2),y3,y4))=bb:=⟨_,rfl⟩
  have hne:=fun W=>neFa hbb W
  dsimp only at hne
  cases bb with
  | true =>
   have HN:=Lib.hid (HX.out (of_decide_eq_true hbb))
   clear hbb HX HY
   go_upto_region 6 with fail
   go_quiet (fail)
   have HW9:=Lib.hid (below_drewN hW.out nq)
   go_wp2
   go_roundw
   case rel=>exact ⟨i+1,by omega,by go_num,HN,HW9⟩
   case measure=>simp [intOf];omega
  | false =>
   have HN:RowKit.Hid (decide (a=b)=false):=Lib.hid (decide_eq_false (HY.out (of_decide_eq_false hbb)))
   clear hbb HX HY
   go_upto_region 6 with fail
   go_quiet (fail)
   have HW9:=Lib.hid (below_drewN hW.out nq)
   go_wp2
   go_ret
   exact ⟨by rw [HN.out];rfl,HW9.out⟩
 ·have hi2:¬ (i:Int)<(a.length:Int):=by omega
  have HN:RowKit.Hid (decide (a=b)=true):=Lib.hid (decide_eq_true (List.ext_getElem HLN.out (fun j h1 h2=>hV.out j h1 h2 (by omega))))
  go_wp2
  go_ret
  exact ⟨by rw [HN.out];rfl,hW.out⟩
set_option maxHeartbeats 800000 in
theorem flute_any (n:Int) (w:World):Calls Tryz.prog 38 #[.int .i64 n] w fun e w'=>e = .returned (.agg #[.int .i64 0,.int .i64 n])∧Below w.heap.size w w':=by
 have HK:=Lib.hid (Blk.new w 45 #[.int .i64 0,.int .i64 n])
 have HB:=Lib.hid ((Below.refl w.heap.size w).alloc (Nat.le_refl _) (.cells #[.int .i64 0,.int .i64 n] 45))
 go_enter Tryz.func38,Tryz.ntmps38
 go_wp2
 have c0:=HK.out.cell 0
 have c1:=HK.out.cell 1
 refine bodyPost_ret (v:=.agg #[.int .i64 0,.int .i64 n]) (by simp [results,Tryz.results38,go_sem,c0,c1]) rfl ⟨rfl,HB.out⟩
def EvE (w:World) (e:Ending) (w':World):Prop:=e = .returned (.slice (some ⟨w.heap.size,0,none⟩) 7 7)∧ARd w' (.slice (some ⟨w.heap.size,0,none⟩) 7 7) 5 (exEv.map evC)∧Below w.heap.size w w'
set_option maxHeartbeats 1600000 in
theorem events_any (w:World):Calls Tryz.prog 37 #[] w (EvE w):=by
 have HK:=Lib.hid (Blk.new w 42 #[.int .i64 0,.int .i64 2,.int .i64 0,.int .i64 0,.int .i64 1,.int .i64 10,.int .i64 1,.int .i64 0,.int .i64 40,.int .i64 1,.int .i64 10,.int .i64 1,.int .i64 0,.int .i64 52,.int .i64 1,.int .i64 20,.int .i64 3,.int .i64 0,.int .i64 0,.int .i64 1,.int .i64 30,.int .i64 1,.int .i64 0,.int .i64 40,.int .i64 0,.int .i64 40,.int .i64 5,.int .i64 0,.int .i64 7,.int .i64 0,.int .i64 50,.int .i64 1,.int .i64 0,.int .i64 52,.int .i64 0])
 have HB:=Lib.hid ((Below.refl w.heap.size w).alloc (Nat.le_refl _) (.cells #[.int .i64 0,.int .i64 2,.int .i64 0,.int .i64 0,.int .i64 1,.int .i64 10,.int .i64 1,.int .i64 0,.int .i64 40,.int .i64 1,.int .i64 10,.int .i64 1,.int .i64 0,.int .i64 52,.int .i64 1,.int .i64 20,.int .i64 3,.int .i64 0,.int .i64 0,.int .i64 1,.int .i64 30,.int .i64 1,.int .i64 0,.int .i64 40,.int .i64 0,.int .i64 40,.int .i64 5,.int .i64 0,.int .i64 7,.int .i64 0,.int .i64 50,.int .i64 1,.int .i64 0,.int .i64 52,.int .i64 0] 42))
 go_enter Tryz.func37,Tryz.ntmps37
 go_wp2
 go_ret
 exact ⟨rfl,ARd.of_blk (k:=5) (rows:=exEv.map evC) HK.out (by intro r hr;obtain ⟨x,_,rfl⟩:=List.mem_map.1 hr;rfl) rfl _ _ rfl,HB.out⟩
theorem ex_pk:pkV (exS 37) (sndB (exS 37)) exEv=(10,2):=by decide +kernel
theorem ex_out {m:List Fa} {c:Int} (h:ClP (exS 37) (sndB (exS 37)) exEv exCl m c):m=[(1,(0,52),10,20),(2,(0,52),50,60)]∧c=0 :=
 ClP.one h (.inr ⟨ex_cls,.inr ⟨by rw [ex_fa];decide,by rw [ex_fa],by simp [faLe,faLt],rfl⟩⟩)
end Go.Proofs.YthhfmppealmblaaGreatDoor
namespace Go.Proofs.YthhfmppealmblaaGreatDoor
open Go.RowKit
theorem ard_cls {W:World} {b:Nat} {t:TypeId} (h:Blk W b t #[.int .i64 0,.int .i64 40,.int .i64 10,.int .i64 30,.int .i64 0,.int .i64 52,.int .i64 20,.int .i64 60]):ARd W (.slice (some ⟨b,0,none⟩) 2 2) 4 (exCl.map clC) :=
 ARd.of_blk (k:=4) (rows:=exCl.map clC) h (by intro r hr;obtain ⟨x,_,rfl⟩:=List.mem_map.1 hr;rfl) rfl _ _ rfl
theorem ard_fas {W:World} {b:Nat} {t:TypeId} (h:Blk W b t #[.int .i64 1,.int .i64 0,.int .i64 52,.int .i64 10,.int .i64 20,.int .i64 2,.int .i64 0,.int .i64 52,.int .i64 50,.int .i64 60]):ARd W (.slice (some ⟨b,0,none⟩) 2 2) 5 (([(1,(0,52),10,20),(2,(0,52),50,60)]:List Fa).map faC) :=
 ARd.of_blk (k:=5) (rows:=([(1,(0,52),10,20),(2,(0,52),50,60)]:List Fa).map faC) h (by intro r hr;obtain ⟨x,_,rfl⟩:=List.mem_map.1 hr;rfl) rfl _ _ rfl
set_option maxRecDepth 100000 in
set_option maxHeartbeats 6400000 in
theorem awake_any (w:World) (t:Tabs w):Calls Tryz.prog 13 #[] w (BoR true w):=by
 have HT:=Lib.hid t
 clear t
 go_enter Tryz.func13,Tryz.ntmps13
 go_wp2_with fail
 refine (example_any w).mono ?_
 rintro e W1 ⟨rfl,hm,hb1⟩
 have HM1:=Lib.hid hm
 have HB1:=Lib.hid hb1
 clear hm hb1
 go_wp2_with fail
 refine (events_any W1).mono ?_
 rintro e W2 ⟨rfl,hev,hb2⟩
 have hsr:=(HM1.out.below hb2).rd
 obtain ⟨p,hp⟩:∃ p,w.heap.size=p:=⟨_,rfl⟩
 rw [hp] at hsr ⊢
 obtain ⟨pe,hpe⟩:∃ p,W1.heap.size=p:=⟨_,rfl⟩
 rw [hpe] at hev ⊢
 have HB2:=Lib.hid (below_step HB1.out hb2)
 have HP:=Lib.hid hp
 have hal:Below W2.heap.size W2 (W2.alloc (.cells #[.slice (some ⟨p+3,0,none⟩) 1 1,.slice (some ⟨p+4,0,none⟩) 2 2,.slice (some ⟨p+8,0,none⟩) 3 3,.slice (some ⟨p+9,0,none⟩) 1 1] 27)):=(Below.refl _ _).alloc (Nat.le_refl _) _
 have hk:=Blk.new W2 27 #[.slice (some ⟨p+3,0,none⟩) 1 1,.slice (some ⟨p+4,0,none⟩) 2 2,.slice (some ⟨p+8,0,none⟩) 3 3,.slice (some ⟨p+9,0,none⟩) 1 1]
 have HSR:=Lib.hid (hsr.later hal)
 have HEV:=Lib.hid (hev.later hal)
 have HK:=Lib.hid hk
 have HB3:=Lib.hid (below_step HB2.out hal)
 clear hsr hev hp hpe hb2 HM1 HB1 HB2 hal hk
 go_upto_region 2 with fail
 obtain ⟨P,hP⟩:∃ P,W2.heap.size=P:=⟨_,rfl⟩
 rw [hP] at HK ⊢
 generalize W2.alloc (.cells #[.slice (some ⟨p+3,0,none⟩) 1 1,.slice (some ⟨p+4,0,none⟩) 2 2,.slice (some ⟨p+8,0,none⟩) 3 3,.slice (some ⟨p+9,0,none⟩) 1 1] 27)=W3 at *
 obtain ⟨v1,hv1⟩:∃ v:Value,.slice (some ⟨p+3,0,none⟩) 1 1=v:=⟨_,rfl⟩
 obtain ⟨v2,hv2⟩:∃ v:Value,.slice (some ⟨p+4,0,none⟩) 2 2=v:=⟨_,rfl⟩
 obtain ⟨v3,hv3⟩:∃ v:Value,.slice (some ⟨p+8,0,none⟩) 3 3=v:=⟨_,rfl⟩
 obtain ⟨v4,hv4⟩:∃ v:Value,.slice (some ⟨p+9,0,none⟩) 1 1=v:=⟨_,rfl⟩
 rw [hv1,hv2,hv3,hv4] at HK HSR
 try rw [hv1]
 try rw [hv2]
 try rw [hv3]
 try rw [hv4]
 clear hP hv1 hv2 hv3 hv4
 obtain ⟨s0,s1,s2,s3⟩:=HK.out.four
 have hdr:=hold4 (W0:=W3) ⟨Below.refl _ W3,s0,s1,s2,s3⟩ ((Below.refl _ W3).drew)
 have HCLM:=Lib.hid (fun (W:World) (hb:Below W3.heap.size W3 W) (b:Nat) (hk:Blk W b 47 #[.int .i64 0,.int .i64 40,.int .i64 10,.int .i64 30,.int .i64 0,.int .i64 52,.int .i64 20,.int .i64 60])=>aclaims_any v1 v2 v3 v4 (exS 37) (exS_ok 37) _ exEv (.slice (some ⟨pe,0,none⟩) 7 7) exCl (.slice (some ⟨b,0,none⟩) 2 2) (sndB (exS 37)) (sndB_is exS_thr) W (HT.out.below (below_step HB3.out hb)) (HSR.out.later hb) (HEV.out.later hb) (ard_cls hk) (by decide) (by decide))
 clear s0 s1 s2 s3
 go_region_held3 (fun w'=>Below W3.heap.size W3 w'∧w'.cell? ⟨P,0,none⟩=some v1∧w'.cell? ⟨P,1,none⟩=some v2∧w'.cell? ⟨P,2,none⟩=some v3∧w'.cell? ⟨P,3,none⟩=some v4) (first | exact hdr | assumption | exact hold4 (by assumption) ((Below.refl _ _).alloc (Nat.le_refl _) _)) (first | (go_at_call 38;(with_reducible refine (flute_any 40 _).mono ?_);rintro e w5 ⟨rfl,hb5⟩;have hn5:=hold4 hdr hb5;clear hb5) | (go_at_call 38;(with_reducible refine (flute_any 52 _).mono ?_);rintro e w6 ⟨rfl,hb6⟩;have hn6:=hold4 hn5 hb6;clear hb6) | (go_at_call 14;refine (HCLM.out _ (hn6.1.alloc hn6.1.size _) _ (Blk.new _ _ _)).mono ?_;rintro e w8 ⟨vf,mf,cf,rfl,hrow,hcl,hb8⟩;obtain ⟨rfl,rfl⟩:=ex_out hcl;have hn8:=hold4 (hold4 hn6 ((Below.refl _ _).alloc (Nat.le_refl _) _)) hb8;clear hb8 hcl))
 have HB8:=Lib.hid (below_step HB3.out hn8.1)
 have HRF:=Lib.hid (ARd.of_fas hrow)
 have HPK:=Lib.hid (peak_any v1 v2 v3 v4 (exS 37) (exS_ok 37) _ exEv (.slice (some ⟨pe,0,none⟩) 7 7) (sndB (exS 37)) (sndB_is exS_thr) w8 (HT.out.below HB8.out) (HSR.out.later hn8.1) (HEV.out.later hn8.1) (by decide))
 obtain ⟨_,s0,s1,s2,s3⟩:=hn8
 clear hdr hn5 hn6 hrow HCLM HSR HEV
 go_wp2_with fail
 refine (HPK.out).mono ?_
 rintro e w9 ⟨rfl,hb9⟩
 rw [ex_pk,ex_aud]
 have HB9:=Lib.hid (below_step HB8.out hb9)
 have HF9:=Lib.hid (HRF.out.later hb9)
 clear hb9 HPK s0 s1 s2 s3 HRF HB8
 dsimp only
 go_wp2_with fail
 refine (flute_any 52 _).mono ?_
 rintro e wa ⟨rfl,hba⟩
 have HBa:=Lib.hid (below_step HB9.out hba)
 have HFa:=Lib.hid (HF9.out.later hba)
 clear hba HB9 HF9
 go_wp2_with fail
 refine (flute_any 52 _).mono ?_
 rintro e wb ⟨rfl,hbb⟩
 have hbb2:Below wb.heap.size wb (wb.alloc (.cells #[.int .i64 1,.int .i64 0,.int .i64 52,.int .i64 10,.int .i64 20,.int .i64 2,.int .i64 0,.int .i64 52,.int .i64 50,.int .i64 60] 52)):=(Below.refl _ _).alloc (Nat.le_refl _) _
 have HBb:=Lib.hid (below_step HBa.out (below_step hbb hbb2))
 have HSM:=Lib.hid (same_any _ _ vf (.slice (some ⟨wb.heap.size,0,none⟩) 2 2) _ (HFa.out.later (below_step hbb hbb2)) (ard_fas (Blk.new wb 52 #[.int .i64 1,.int .i64 0,.int .i64 52,.int .i64 10,.int .i64 20,.int .i64 2,.int .i64 0,.int .i64 52,.int .i64 50,.int .i64 60])) (by decide))
 rw [decide_eq_true rfl] at HSM
 clear hbb hbb2 HBa HFa
 go_wp2_with fail
 refine (HSM.out).mono ?_
 rintro e wc ⟨rfl,hbc⟩
 have HBc:=Lib.hid (below_step HBb.out hbc)
 clear hbc HSM HBb
 go_wp2
 go_ret
 exact ⟨rfl,HBc.out⟩
end Go.Proofs.YthhfmppealmblaaGreatDoor
