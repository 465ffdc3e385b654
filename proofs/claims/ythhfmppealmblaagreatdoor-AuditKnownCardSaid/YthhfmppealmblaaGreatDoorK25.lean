/-
  A part of the proof: TYp, TY, SH, F1c, LG, TA, TC, TD, TV, TI, TJ, TK, TH, TU, ShelfI.
-/
import Derived.Test.YthhfmppealmblaaGreatDoorK24
import Derived.Test.YthhfmppealmblaaGreatDoorK22
import Derived.Test.YthhfmppealmblaaGreatDoorK14
import Derived.Test.YthhfmppealmblaaGreatDoorN11
import Derived.Deep.RegionHeld3
import Derived.Test.YthhfmppealmblaaGreatDoorK23
import Derived.Test.YthhfmppealmblaaGreatDoorN01
import Derived.Test.YthhfmppealmblaaGreatDoorN06
import Derived.Test.YthhfmppealmblaaGreatDoorK19
import Derived.Shelf.Sort.Plain
import Derived.Shelf.Slices.In.SortNone
namespace Go.Proofs.YthhfmppealmblaaGreatDoor
open Go.RowKit
structure WM (w W:World) (vo:Value) (out:List Cg) (mb:Nat) (D:List (Pp × Value)) (N T:Pp→Int):Prop where
 mp:Mp ekP W mb D
 bl:∀ p v,(p,v)∈D→∃ b,v = .pointer (some ⟨b,0,none⟩)∧w.heap.size≤b∧Blk W b 64 #[.int .i64 p.1,.int .i64 p.2,.int .i64 (N p),.int .i64 (T p)]
 row:W.ownsRow w.heap.size 91 5 vo out.length (cgCs out)
 mbl:w.heap.size≤mb
 be:Below w.heap.size w W
theorem WM.later {w W W':World} {vo:Value} {out:List Cg} {mb:Nat} {D:List (Pp × Value)} {N T:Pp→Int} (h:WM w W vo out mb D N T) (hb:Below W.heap.size W W'):WM w W' vo out mb D N T :=
 ⟨h.mp.below hb,fun p v hp=>by
  obtain ⟨b,e,h1,h2⟩:=h.bl p v hp
  exact ⟨b,e,h1,h2.below hb⟩,row_later h.row hb,h.mbl,below_step h.be hb⟩
theorem WM.drew {w W:World} {vo:Value} {out:List Cg} {mb:Nat} {D:List (Pp × Value)} {N T:Pp→Int} (h:WM w W vo out mb D N T):WM w W.drew vo out mb D N T:=h.later (Below.refl _ W).drew
theorem blk_off_row {W:World} {b base n k:Nat} {t t2:TypeId} {cs:Array Value} {v:Value} {xs:List Value} (h:Blk W b t cs) (hr:W.ownsRow base t2 k v n xs) (hne:t≠t2):v.ownBlock=none∨v.ownBlock≠some b:=by
 rcases hr.2 with ⟨rfl,_⟩ | ⟨g,cap,cur,rfl,_,hgg,_⟩
 ·exact .inl rfl
 ·refine .inr fun e=>?_
  have e':g=b:=Option.some.inj e
  subst e'
  unfold Blk at h
  rw [h] at hgg
  cases hgg
  exact hne rfl
theorem WM.set (i:Nat) {w W:World} {vo:Value} {out:List Cg} {mb:Nat} {D:List (Pp × Value)} {N T N' T':Pp→Int} (h:WM w W vo out mb D N T) {q:Pp} {Y:Nat} (hq:(q,Value.pointer (some ⟨Y,0,none⟩))∈D) (u:Value)
  (hN:∀ p,p≠q→N p=N' p) (hT:∀ p,p≠q→T p=T' p)
  (hu:(#[.int .i64 q.1,.int .i64 q.2,.int .i64 (N q),.int .i64 (T q)]:Array Value).setIfInBounds i u=#[.int .i64 q.1,.int .i64 q.2,.int .i64 (N' q),.int .i64 (T' q)]):WM w (W.setCell ⟨Y,i,none⟩ u) vo out mb D N' T':=by
 obtain ⟨b,e,h1,h2⟩:=h.bl q _ hq
 obtain rfl:Y=b:=by cases e;rfl
 have hg:=set_grown W Y i u
 refine ⟨h.mp.kept hg (fun e=>mp_not_blk h.mp h2 (Option.some.inj e).symm),fun p v hp=>?_,h.row.kept hg (blk_off_row h2 h.row (by decide)),h.mbl,h.be.setCell (p:=⟨Y,i,none⟩) h1 _⟩
 obtain ⟨b,e2,h3,h4⟩:=h.bl p v hp
 by_cases hpq:p=q
 ·subst hpq
  have k1:=mget_of_mem h.mp.nodup hp
  have k2:=mget_of_mem h.mp.nodup hq
  rw [k1] at k2
  have k3:=Option.some.inj k2
  rw [k3] at e2
  obtain rfl:Y=b:=by cases e2;rfl
  refine ⟨Y,k3,h3,?_⟩
  have:=h2.set i u
  rw [hu] at this
  exact this
 ·refine ⟨b,e2,h3,?_⟩
  rw [← hN p hpq,← hT p hpq]
  refine h4.other _ _ (fun hb=>hpq ?_)
  have hb':b=Y:=hb
  subst hb'
  unfold Blk at h4 h2
  rw [h4] at h2
  simp only [Option.some.injEq,Obj.cells.injEq,Array.mk.injEq,List.cons.injEq,Value.int.injEq,and_true,true_and] at h2
  exact Prod.ext h2.1 h2.2.1
theorem WM.put {w W W':World} {vo:Value} {out:List Cg} {mb:Nat} {D:List (Pp × Value)} {N T:Pp→Int} (h:WM w W vo out mb D N T) {q:Pp} {Y:Nat} (hY:Blk W Y 64 #[.int .i64 q.1,.int .i64 q.2,.int .i64 0,.int .i64 0]) (hYl:w.heap.size≤Y) (hN:N q=0) (hT:T q=0) (hno:mget q D=none)
  (hm:Mp ekP W' mb (mput q (.pointer (some ⟨Y,0,none⟩)) D)) (hg:W.grownBy W' (some mb)):WM w W' vo out mb (D++[(q,.pointer (some ⟨Y,0,none⟩))]) N T:=by
 rw [mput_none _ hno] at hm
 refine ⟨hm,fun p v hp=>?_,h.row.kept hg ?_,h.mbl,h.be.grown hg h.be.size (fun j e=>by cases e;exact h.mbl)⟩
 ·rcases List.mem_append.1 hp with hp | hp
  ·obtain ⟨b,e,h1,h2⟩:=h.bl p v hp
   exact ⟨b,e,h1,h2.kept hg (fun e=>mp_not_blk h.mp h2 (Option.some.inj e))⟩
  ·rw [List.mem_singleton] at hp
   cases hp
   refine ⟨Y,rfl,hYl,?_⟩
   rw [hN,hT]
   exact hY.kept hg (fun e=>mp_not_blk h.mp hY (Option.some.inj e))
 ·exact .inr (Ne.symm (h.mp.not_row h.row))
theorem ofP_snoc (p:Pp) (a:List Cg) (x:Cg):ofP p (a++[x])=ofP p a++if x.2.1=p then [x] else []:=by
 unfold ofP
 rw [List.filter_append]
 congr 1
 by_cases h:x.2.1=p
 ·rw [if_pos h,List.filter_cons_of_pos (by simpa using h)];rfl
 ·rw [if_neg h,List.filter_cons_of_neg (by simpa using h)];rfl
theorem wn_next (a:List Cg) (x:Cg) (p:Pp):wcN (ofP p (a++[x]))=if p=x.2.1 then wcN (ofP p a)+max 0 x.2.2.1 else wcN (ofP p a):=by
 rw [ofP_snoc,wcN_append]
 by_cases h:x.2.1=p
 ·rw [if_pos h,if_pos h.symm];simp [wcN]
 ·rw [if_neg h,if_neg (fun e=>h e.symm)];simp [wcN]
theorem wt_next (last:Int) (a:List Cg) (x:Cg) (p:Pp):wcT last (ofP p (a++[x]))=if p=x.2.1 then wcT last (ofP p a)+x.2.2.1 * (last-x.1) else wcT last (ofP p a):=by
 rw [ofP_snoc,wcT_append]
 by_cases h:x.2.1=p
 ·rw [if_pos h,if_pos h.symm];simp [wcT]
 ·rw [if_neg h,if_neg (fun e=>h e.symm)];simp [wcT]
theorem ofP_none {p:Pp} {a:List Cg} (h:¬ ∃ x∈a,x.2.1=p):ofP p a=[]:=by
 unfold ofP
 rw [List.filter_eq_nil_iff]
 intro x hx
 have:=fun e=>h ⟨x,hx,e⟩
 simpa using this
theorem wc_bound {last:Int} (hl:0≤last∧last≤100000000):∀ {L:List Cg},(∀ x∈L,(x.2.2.1=1∨x.2.2.1 = -1)∧0≤x.1∧x.1≤100000000)→(0≤wcN L∧wcN L≤L.length)∧-(100000000 * L.length:Int)≤wcT last L∧wcT last L≤100000000 * L.length
 | [],_=>by simp [wcN,wcT]
 | x :: L,h=>by
  have ih:=wc_bound hl (L:=L) fun y hy=>h y (List.mem_cons_of_mem _ hy)
  obtain ⟨h1,h2,h3⟩:=h x (by simp)
  rw [wcN,wcT,List.length_cons]
  push_cast
  rcases h1 with e | e
  ·rw [e,Int.one_mul];omega
  ·rw [e,Int.neg_mul,Int.one_mul];omega
theorem ofP_sub {p:Pp} {a:List Cg}:∀ x∈ofP p a,x∈a:=fun _ hx=>(List.mem_filter.1 hx).1
def wrow (N T:Pp→Int) (x:Pp × Value):We:=(x.1,N x.1,T x.1)
theorem wear_perm {S:Sp} {B:(Th→Int)→Pp→Bool} (hB:SndIs S B) (g:∀ x∈S.ss,∀ key,∀ p∈playsL x key,p∈allFrom 0 S.rs) {l:List Ev} {out:List Cg} (ho:ChgOf B l out) {D:List (Pp × Value)} (hk:∀ p,p∈D.map (·.1) ↔ ∃ x∈out,x.2.1=p) (hnd:(D.map (·.1)).Nodup)
  {m:List We} (hm:m.Perm (D.map (wrow (fun p=>wcN (ofP p out)) (fun p=>wcT (l.getD (l.length-1) ev0).1 (ofP p out))))) (hs:m.Pairwise fun a b=>¬ weLt b a):m=wearL S B l:=by
 have hin:∀ p,p∈D.map (·.1)→p∈allFrom 0 S.rs∧l≠[]:=fun p hp=>by
  obtain ⟨x,hx,rfl⟩:=(hk p).1 hp
  obtain ⟨h1,⟨y,hy,_⟩,_⟩:=chg_all hB g ho hx
  exact ⟨h1,fun e=>by rw [e] at hy;cases hy⟩
 have hnm:(m.map (·.1)).Nodup:=by
  have h1:=(hm.map (·.1))
  rw [List.map_map] at h1
  exact h1.nodup_iff.2 hnd
 have hs2:m.Pairwise weLt:=by
  unfold List.Nodup at hnm
  rw [List.pairwise_map] at hnm
  refine List.Pairwise.imp₂ ?_ hs hnm
  rintro ⟨⟨a1,a2⟩,a3⟩ ⟨⟨b1,b2⟩,b3⟩ h1 h2
  unfold weLt ppLt at *
  simp only at *
  have h3:¬ (a1=b1∧a2=b2):=fun h=>h2 (Prod.ext h.1 h.2)
  omega
 refine wear_one hs2 fun x=>?_
 rw [hm.mem_iff,List.mem_map]
 constructor
 ·rintro ⟨y,hy,rfl⟩
  have hp:y.1∈D.map (·.1):=List.mem_map.2 ⟨y,hy,rfl⟩
  obtain ⟨h1,h2⟩:=hin _ hp
  obtain ⟨h3,h4⟩:=wear_sums ho h2 y.1
  exact ⟨h1,(wear_in ho y.1).1 ((hk y.1).1 hp),h3,h4⟩
 ·rintro ⟨h1,h2,h3,h4⟩
  have hp:=(hk x.1).2 ((wear_in ho x.1).2 h2)
  obtain ⟨_,hl⟩:=hin _ hp
  obtain ⟨h5,h6⟩:=wear_sums ho hl x.1
  obtain ⟨y,hy,e⟩:=List.mem_map.1 hp
  refine ⟨y,hy,?_⟩
  obtain ⟨xp,xn,xt⟩:=x
  simp only at e h3 h4 h5 h6
  unfold wrow
  simp only
  rw [e,h5,h6,h3,h4]
theorem keys_in {D:List (Pp × Value)} {q:Pp} (h:q∈D.map (·.1)):∃ v,mget q D=some v∧(q,v)∈D:=by
 cases e:mget q D with
 | none=>exact absurd h (mget_no.1 e)
 | some v=>exact ⟨v,rfl,mget_mem e⟩
end Go.Proofs.YthhfmppealmblaaGreatDoor
namespace Go.Proofs.YthhfmppealmblaaGreatDoor
open Go.RowKit
set_option maxRecDepth 100000 in
set_option maxHeartbeats 12800000 in
theorem awear_any (v1 v2 v3 v4:Value) (S:Sp) (ok:SpOk S) (fp:Nat→Value) (l:List Ev) (vl:Value) (B:(Th→Int)→Pp→Bool) (hB:SndIs S B) (w:World) (t:Tabs w) (hsp:SpRd w v1 v2 v3 v4 fp S) (hlv:ARd w vl 5 (l.map evC)) (hl:l.length≤50000) :
  Calls Tryz.prog 26 #[.agg #[v1,v2,v3,v4],vl] w (WrE S B l w):=by
 have hmm:=@run_makeMap Tryz.prog
 obtain ⟨i0,hi0,hz0,hz1,hz2⟩:=info_parts we_info
 obtain ⟨al,cv,evl⟩:=hlv.evForm
 subst evl
 have hal:=(Below.refl _ w).alloc (Nat.le_refl w.heap.size) (.cells #[v1,v2,v3,v4] 27)
 have hk:=Blk.new w 27 #[v1,v2,v3,v4]
 have hal2:Below w.heap.size w ((w.alloc (.cells #[v1,v2,v3,v4] 27)).alloc (.cells #[.slice al l.length cv] 28)):=hal.alloc (by simp) _
 have hk2:=hk.alloc (.cells #[.slice al l.length cv] 28)
 have hk3:=Blk.new (w.alloc (.cells #[v1,v2,v3,v4] 27)) 28 #[.slice al l.length cv]
 rw [World.size_alloc] at hk3
 have HCK:=Lib.hid (acheck_any v1 v2 v3 v4 S ok fp w.heap.size _ [(.slice al l.length cv,l)] _ (t.below hal2) (hsp.later hal2) hk2 (by simp) (fun x hx=>by rw [List.mem_singleton.1 hx];exact Nat.le_trans hl (by omega)) (evsR_one hk3 (hlv.later hal2)))
 rw [show ([(.slice al l.length cv,l)]:List (Value × List Ev)).map (·.2)=[l] from rfl,chkE_one] at HCK
 have HB0:=Lib.hid hal2
 have B0:=Lib.hid hk2
 have HSP:=Lib.hid hsp
 have HLV:=Lib.hid hlv
 clear hsp hlv ok t hal hk hal2 hk2 hk3
 go_enter Tryz.func26,Tryz.ntmps26
 go_wp2_with fail
 refine (HCK.out).mono ?_
 rintro e W ⟨rfl,hb⟩
 have HB1:=Lib.hid (below_step HB0.out hb)
 have B1:=Lib.hid (B0.out.below hb)
 clear HCK hb B0 HB0
 by_cases hE:audE S l=0
 case neg =>
  have HN:=Lib.hid (wearV_ne S B hE)
  obtain ⟨e0,he0⟩:∃ e0,audE S l=e0:=⟨_,rfl⟩
  have HE:=Lib.hid he0
  rw [he0] at hE ⊢
  have q1:(e0==0)=false:=by simpa using hE
  clear he0 hE
  go_wp2
  go_ret2
  exact ⟨_,by rw [HE.out];rfl,by rw [HN.out];exact World.ownsRow_nil _ _ _ _,HB1.out⟩
 have HE:=Lib.hid hE
 rw [hE]
 obtain ⟨hck,hrk⟩:=audE_parts hE
 have hsg:=spGood hck
 have HAS:=Lib.hid (audE_ok hE)
 have HGP:=Lib.hid (show ∀ x∈S.ss,∀ key,∀ p∈playsL x key,p∈allFrom 0 S.rs from fun x hx key=>hsg.plays hx)
 have HGD:=Lib.hid hsg
 have HSB:=Lib.hid hB
 have hal:Below w.heap.size w (W.alloc (.map #[] 0)):=HB1.out.alloc HB1.out.size _
 have HM0:=Lib.hid (show Mp ekP (W.alloc (.map #[] 0)) W.heap.size ([]:List (Pp × Value)) from Mp.made W)
 have HCH:=Lib.hid (changes_any v1 v2 v3 v4 S hck fp w.heap.size B hB l (.slice al l.length cv) hrk _ (HSP.out.later hal) (B1.out.alloc _) (HLV.out.later hal))
 have HMB:=Lib.hid HB1.out.size
 have HWV:=Lib.hid (show wearV S B l=wearL S B l from if_pos hE)
 have HAL:=Lib.hid hal
 obtain ⟨MB,hMB⟩:∃ MB,W.heap.size=MB:=⟨_,rfl⟩
 rw [hMB] at HM0 HMB
 clear hE hck hrk hsg hB hal B1 HB1 HSP
 go_wp2_with fail
 refine (HCH.out).mono ?_
 rintro e W2 ⟨vo,out,rfl,hro,hcg,hol,hb2⟩
 obtain ⟨ao,co,evo⟩:=row_formN hro
 subst evo
 have HCG:=Lib.hid hcg
 have HOL:=Lib.hid hol
 have HI0:=Lib.hid (show WM w W2 (.slice ao out.length co) out MB [] (fun p=>wcN (ofP p (out.take 0))) (fun p=>wcT (l.getD (l.length-1) ev0).1 (ofP p (out.take 0))) from ⟨HM0.out.below hb2,fun p v h=>(by cases h),row_base hro HAL.out.size,HMB.out,below_step HAL.out hb2⟩)
 have HK0:=Lib.hid (show ∀ p,p∈([]:List (Pp × Value)).map (·.1) ↔ ∃ x∈out.take 0,x.2.1=p by simp)
 have HBD:=Lib.hid (show ∀ x∈out,(x.2.2.1=1∨x.2.2.1 = -1)∧0≤x.1∧x.1≤100000000∧0<l.length from fun x hx=>by
  obtain ⟨_,⟨y,hy,e⟩,_,h4⟩:=chg_all HSB.out HGP.out hcg hx
  have:=HAS.out.nonneg hy
  rw [e] at this
  exact ⟨h4,this.1,this.2,List.length_pos_of_mem hy⟩)
 clear hro hcg hb2 HCH HM0 HAL hMB HMB
 have hol2:out.length≤400000000:=by omega
 go_wp2
 go_loopw [25] (fun x wr=>∃ (i:Nat) (D:List (Pp × Value)),i≤out.length∧x = .int .i64 i∧RowKit.Hid (WM w wr (.slice ao out.length co) out MB D (fun p=>wcN (ofP p (out.take i))) (fun p=>wcT (l.getD (l.length-1) ev0).1 (ofP p (out.take i))))∧RowKit.Hid (∀ p,p∈D.map (·.1) ↔ ∃ x∈out.take i,x.2.1=p)) (fun x _=>out.length-(intOf x).toNat)
 case atStart=>exact ⟨0,[],Nat.zero_le _,rfl,HI0,HK0⟩
 clear HI0 HK0
 obtain ⟨i,D,hi,rfl,hM,hK⟩:=hrel
 by_cases hil:i<out.length
 ·have hi2:(i:Int)<(out.length:Int):=by omega
  obtain ⟨b,o,c',ev,hbl,k0,k1,k2,k3,k4⟩:=(ARd.of_cgs hM.out.row).cgAt i hil
  cases ev
  have HTK:=Lib.hid (show out.take (i+1)=out.take i++[out[i]] from List.take_succ_eq_append_getElem hil)
  have hbd:=HBD.out _ (List.getElem_mem hil)
  have HNB:=Lib.hid (fun (q:Pp) (hq:0≤(l.getD (l.length-1) ev0).1∧(l.getD (l.length-1) ev0).1≤100000000)=>wc_bound hq (L:=ofP q (out.take i)) (fun x hx=>by
   obtain ⟨h1,h2,h3,_⟩:=HBD.out x (List.mem_of_mem_take (ofP_sub x hx))
   exact ⟨h1,h2,h3⟩))
  have HOF:=Lib.hid (fun (q:Pp)=>show (ofP q (out.take i)).length≤400000000 by
   have h1:=List.length_filter_le (fun x:Cg=>decide (x.2.1=q)) (out.take i)
   rw [List.length_take] at h1
   unfold ofP
   omega)
  obtain ⟨x,hx⟩:∃ x,out[i]=x:=⟨_,rfl⟩
  rw [hx] at k0 k1 k2 k3 k4 HTK hbd
  obtain ⟨tk,⟨q1,q2⟩,sd,cl⟩:=x
  dsimp only at k0 k1 k2 k3 k4 hbd
  obtain ⟨hsd,ht0,ht1,hl0⟩:=hbd
  have hal:Below wr.heap.size wr (wr.alloc (.cells #[.int .i64 tk,.int .i64 q1,.int .i64 q2,.int .i64 sd,.int .i64 cl] 91)):=(Below.refl _ wr).alloc (Nat.le_refl _) _
  have HX:=Lib.hid (Blk.new wr 91 #[.int .i64 tk,.int .i64 q1,.int .i64 q2,.int .i64 sd,.int .i64 cl])
  have HM1:=Lib.hid (hM.out.later hal)
  go_upto_region 8 with fail
  obtain ⟨X,hX⟩:∃ X,wr.heap.size=X:=⟨_,rfl⟩
  rw [hX] at HX ⊢
  generalize wr.alloc (.cells #[.int .i64 tk,.int .i64 q1,.int .i64 q2,.int .i64 sd,.int .i64 cl] 91)=W3 at *
  clear k0 k1 k2 k3 k4 hX hal hM hbl hx
  have x1:W3.cell? ⟨X,1,none⟩=some (.int .i64 q1):=HX.out.cell 1
  have x2:W3.cell? ⟨X,2,none⟩=some (.int .i64 q2):=HX.out.cell 2
  have hmp:=HM1.out.mp
  by_cases hq:(q1,q2)∈D.map (·.1)
  ·obtain ⟨v,hg,hqD⟩:=keys_in hq
   obtain ⟨Y,rfl,hYl,hYb⟩:=HM1.out.bl _ _ hqD
   have hget:(mget (q1,q2) D).getD (.pointer none) = .pointer (some ⟨Y,0,none⟩):=by rw [hg];rfl
   have HKN:=Lib.hid (show ∀ p,p∈D.map (·.1) ↔ ∃ x∈out.take (i+1),x.2.1=p from fun p=>by
    rw [HTK.out,hK.out p]
    constructor
    ·rintro ⟨x,hx,e⟩
     exact ⟨x,by simp [hx],e⟩
    ·rintro ⟨x,hx,e⟩
     rcases List.mem_append.1 hx with hx | hx
     ·exact ⟨x,hx,e⟩
     ·rw [List.mem_singleton] at hx
      subst hx
      rw [← e]
      exact (hK.out _).1 hq)
   have HQD:=Lib.hid hqD
   have HYB:=Lib.hid hYb
   clear hg hqD hK hq hYb
   go_upto_region 12 with (at_lookup;refine wpList_lookup_mp _ rfl _ _ 121 rfl 122 pp_keys Tryz.underlying121 (Tryz.zeroValue122 _) rfl hmp (q1,q2) rfl ?_;rw [hget])
   have HMT:=Lib.hid HM1.out
   have HXT:=Lib.hid HX.out
   clear hget hmp x1 x2 HM1 HX
   have hn0:l.length-1<l.length:=by omega
   obtain ⟨bl,ol,cl',evl,hbl2,z0,_⟩:=(HLV.out.later HMT.out.be).evAt (l.length-1) hn0
   cases evl
   have hLb:=HAS.out.nonneg (List.getElem_mem hn0)
   have hlast:(l.getD (l.length-1) ev0).1=l[l.length-1].1:=by rw [getD_at hn0]
   obtain ⟨LT,hLT⟩:∃ z,l[l.length-1].1=z:=⟨_,rfl⟩
   rw [hLT] at z0 hLb hlast
   have HLT:=Lib.hid hlast
   have hbn:=HNB.out (q1,q2) (by rw [hlast];exact hLb)
   have hof:=HOF.out (q1,q2)
   obtain ⟨wn,hwn⟩:∃ z,wcN (ofP (q1,q2) (out.take i))=z:=⟨_,rfl⟩
   obtain ⟨wt,hwt⟩:∃ z,wcT (l.getD (l.length-1) ev0).1 (ofP (q1,q2) (out.take i))=z:=⟨_,rfl⟩
   have hyb:=HYB.out
   dsimp only at hyb
   rw [hwn,hwt] at hyb
   rw [hwn,hwt] at hbn
   have HWN:=Lib.hid hwn
   have HWT:=Lib.hid hwt
   obtain ⟨rs,hrs⟩:∃ z,LT-tk=z:=⟨_,rfl⟩
   have hsr : -100000000≤sd * rs∧sd * rs≤100000000:=by rcases hsd with rfl | rfl <;> omega
   obtain ⟨sr,hsrn⟩:∃ z,sd * rs=z:=⟨_,rfl⟩
   have HSR:=Lib.hid (show sd * (LT-tk)=sr by rw [hrs,hsrn])
   obtain ⟨nl,hnl⟩:∃ n,l.length-1=n:=⟨_,rfl⟩
   rw [hnl] at z0
   have f0:(l.length:Int)-1=(nl:Int):=by omega
   have f1:(nl:Int)<(l.length:Int):=by omega
   have f2:IntKind.i64.wrap (nl:Int)=(nl:Int):=IntWalk.i64_in _ (by omega)
   have x0:=HXT.out.cell 0
   simp only [List.getElem?_toArray,List.getElem?_cons_zero] at x0
   go_region
   have HM6:=Lib.hid HMT.out.drew
   have HX6:=Lib.hid (Blk.drew' HXT.out)
   have HY6:=Lib.hid (Blk.drew' hyb)
   generalize W3.drew=W6 at *
   clear x0 z0 HMT HXT hyb HYB f0 f1 f2 hrs hnl hwn hwt hbl2 hlast
   have x3:=HX6.out.cell 3
   have y3:=HY6.out.cell 3
   have g3:=HY6.out.frozen 3
   simp only [List.getElem?_toArray,List.getElem?_cons_zero,List.getElem?_cons_succ] at x3 y3
   have e1:IntKind.i64.wrap sr=sr:=IntWalk.i64_in _ (by omega)
   have e2:IntKind.i64.wrap (wt+sr)=wt+sr:=IntWalk.i64_in _ (by omega)
   have HM7:=Lib.hid (HM6.out.set 3 HQD.out (.int .i64 (wt+sr)) (N':=fun p=>wcN (ofP p (out.take i))) (T':=fun p=>wcT (l.getD (l.length-1) ev0).1 (ofP p (out.take (i+1)))) (fun p _=>rfl) (fun p hp=>by
    show _=wcT _ (ofP p (out.take (i+1)))
    rw [HTK.out,wt_next,if_neg hp]) (by
    show #[_,_,_,Value.int .i64 (wt+sr)]=_
    rw [HTK.out,wt_next,if_pos rfl,HWT.out,HLT.out]
    simp only
    rw [HSR.out]))
   have HX7:=Lib.hid (HX6.out.other ⟨Y,3,none⟩ (.int .i64 (wt+sr)) (HX6.out.ne HY6.out (by decide)))
   have HY7:=Lib.hid (show Blk (W6.setCell ⟨Y,3,none⟩ (.int .i64 (wt+sr))) Y 64 #[.int .i64 q1,.int .i64 q2,.int .i64 wn,.int .i64 (wt+sr)] from HY6.out.set 3 _)
   clear HM6 HX6 HY6
   go_upto_region 13 with fail
   go_region
   have HM8:=Lib.hid HM7.out.drew
   have HX8:=Lib.hid (Blk.drew' HX7.out)
   have HY8:=Lib.hid (Blk.drew' HY7.out)
   generalize (W6.setCell ⟨Y,3,none⟩ (.int .i64 (wt+sr))).drew=W8 at *
   clear x3 y3 g3 e1 e2 HM7 HX7 HY7
   obtain ⟨mx,hmx⟩:∃ z,max 0 sd=z:=⟨_,rfl⟩
   have hm01:0≤mx∧mx≤1:=by omega
   have x3:=HX8.out.cell 3
   have y2:=HY8.out.cell 2
   have g2:=HY8.out.frozen 2
   simp only [List.getElem?_toArray,List.getElem?_cons_zero,List.getElem?_cons_succ] at x3 y2
   have e2:IntKind.i64.wrap (wn+mx)=wn+mx:=IntWalk.i64_in _ (by omega)
   have HM9:=Lib.hid (WM.drew (HM8.out.set 2 HQD.out (.int .i64 (wn+mx)) (N':=fun p=>wcN (ofP p (out.take (i+1)))) (T':=fun p=>wcT (l.getD (l.length-1) ev0).1 (ofP p (out.take (i+1)))) (fun p hp=>by
    show _=wcN (ofP p (out.take (i+1)))
    rw [HTK.out,wn_next,if_neg hp]) (fun p _=>rfl) (by
    show #[_,_,Value.int .i64 (wn+mx),_]=_
    rw [HTK.out,wn_next,if_pos rfl,HWN.out]
    simp only
    rw [hmx])))
   clear HM8 HX8 HY8
   go_upto_region 14 with fail
   go_region
   go_wp2
   go_roundw
   case rel=>exact ⟨i+1,_,by omega,by go_num,HM9,HKN⟩
   case measure=>simp [intOf];omega
  ·have hno:mget (q1,q2) D=none:=mget_no.2 hq
   have hget:(mget (q1,q2) D).getD (.pointer none) = .pointer none:=by rw [hno];rfl
   have hal5:Below W3.heap.size W3 (W3.alloc (.cells #[.int .i64 q1,.int .i64 q2,.int .i64 0,.int .i64 0] 64)):=(Below.refl _ W3).alloc (Nat.le_refl _) _
   have HX5:=Lib.hid (HX.out.below hal5)
   have HM5:=Lib.hid (HM1.out.later hal5)
   have HY5:=Lib.hid (Blk.new W3 64 #[.int .i64 q1,.int .i64 q2,.int .i64 0,.int .i64 0])
   have hYl:=HM1.out.be.size
   go_upto_region 11 with (at_lookup;refine wpList_lookup_mp _ rfl _ _ 121 rfl 122 pp_keys Tryz.underlying121 (Tryz.zeroValue122 _) rfl hmp (q1,q2) rfl ?_;rw [hget])
   obtain ⟨Y,hY⟩:∃ Y,W3.heap.size=Y:=⟨_,rfl⟩
   rw [hY] at HY5 hYl ⊢
   generalize W3.alloc (.cells #[.int .i64 q1,.int .i64 q2,.int .i64 0,.int .i64 0] 64)=W4 at *
   clear hY hal5 HX HM1 hmp x1 x2 hget
   have x1:W4.cell? ⟨X,1,none⟩=some (.int .i64 q1):=HX5.out.cell 1
   have x2:W4.cell? ⟨X,2,none⟩=some (.int .i64 q2):=HX5.out.cell 2
   have hmp:=HM5.out.mp
   have HNO:=Lib.hid hno
   have hk0:¬ ∃ x∈out.take i,x.2.1=(q1,q2):=fun h=>hq ((hK.out _).2 h)
   have HOE:=Lib.hid (ofP_none hk0)
   have HKN0:=Lib.hid (show ∀ (v:Value) (p:Pp),p∈(D++[((q1,q2),v)]).map (·.1) ↔ ∃ x∈out.take (i+1),x.2.1=p from fun v p=>by
    rw [HTK.out,List.map_append,List.mem_append,hK.out p]
    simp only [List.map_cons,List.map_nil,List.mem_singleton]
    constructor
    ·rintro (⟨x,hx,e⟩ | e)
     ·exact ⟨x,by simp [hx],e⟩
     ·exact ⟨(tk,(q1,q2),sd,cl),by simp,e.symm⟩
    ·rintro ⟨x,hx,e⟩
     rcases List.mem_append.1 hx with hx | hx
     ·exact .inl ⟨x,hx,e⟩
     ·rw [List.mem_singleton] at hx
      subst hx
      exact .inr e.symm)
   clear hno hk0 hq hK
   go_upto_region 12 with (at_mapUpdate;refine wpList_update_mp _ rfl _ _ _ 121 rfl 122 pp_keys Tryz.underlying121 rfl hmp (q1,q2) (.pointer (some ⟨Y,0,none⟩)) rfl rfl ?_;intro W5 hm5 hg5 hs5)
   try go_frame
   have HMT:=Lib.hid (HM5.out.put HY5.out hYl (by show wcN _=0;rw [HOE.out];rfl) (by show wcT _ _=0;rw [HOE.out];rfl) HNO.out hm5 hg5)
   have HXT:=Lib.hid (HX5.out.kept hg5 (fun e=>mp_not_blk HM5.out.mp HX5.out (Option.some.inj e)))
   have HQD:=Lib.hid (show ((q1,q2),Value.pointer (some ⟨Y,0,none⟩))∈D++[((q1,q2),Value.pointer (some ⟨Y,0,none⟩))] by simp)
   have HKN:=Lib.hid (HKN0.out (.pointer (some ⟨Y,0,none⟩)))
   obtain ⟨Y',ey,_,hYb⟩:=HMT.out.bl _ _ HQD.out
   obtain rfl:Y=Y':=by cases ey;rfl
   have HYB:=Lib.hid hYb
   clear hm5 hg5 hs5 ey hYb HM5 HX5 HY5 x1 x2 hmp HNO HKN0 HOE
   have hn0:l.length-1<l.length:=by omega
   obtain ⟨bl,ol,cl',evl,hbl2,z0,_⟩:=(HLV.out.later HMT.out.be).evAt (l.length-1) hn0
   cases evl
   have hLb:=HAS.out.nonneg (List.getElem_mem hn0)
   have hlast:(l.getD (l.length-1) ev0).1=l[l.length-1].1:=by rw [getD_at hn0]
   obtain ⟨LT,hLT⟩:∃ z,l[l.length-1].1=z:=⟨_,rfl⟩
   rw [hLT] at z0 hLb hlast
   have HLT:=Lib.hid hlast
   have hbn:=HNB.out (q1,q2) (by rw [hlast];exact hLb)
   have hof:=HOF.out (q1,q2)
   obtain ⟨wn,hwn⟩:∃ z,wcN (ofP (q1,q2) (out.take i))=z:=⟨_,rfl⟩
   obtain ⟨wt,hwt⟩:∃ z,wcT (l.getD (l.length-1) ev0).1 (ofP (q1,q2) (out.take i))=z:=⟨_,rfl⟩
   have hyb:=HYB.out
   dsimp only at hyb
   rw [hwn,hwt] at hyb
   rw [hwn,hwt] at hbn
   have HWN:=Lib.hid hwn
   have HWT:=Lib.hid hwt
   obtain ⟨rs,hrs⟩:∃ z,LT-tk=z:=⟨_,rfl⟩
   have hsr : -100000000≤sd * rs∧sd * rs≤100000000:=by rcases hsd with rfl | rfl <;> omega
   obtain ⟨sr,hsrn⟩:∃ z,sd * rs=z:=⟨_,rfl⟩
   have HSR:=Lib.hid (show sd * (LT-tk)=sr by rw [hrs,hsrn])
   obtain ⟨nl,hnl⟩:∃ n,l.length-1=n:=⟨_,rfl⟩
   rw [hnl] at z0
   have f0:(l.length:Int)-1=(nl:Int):=by omega
   have f1:(nl:Int)<(l.length:Int):=by omega
   have f2:IntKind.i64.wrap (nl:Int)=(nl:Int):=IntWalk.i64_in _ (by omega)
   have x0:=HXT.out.cell 0
   simp only [List.getElem?_toArray,List.getElem?_cons_zero] at x0
   go_region
   have HM6:=Lib.hid HMT.out.drew
   have HX6:=Lib.hid (Blk.drew' HXT.out)
   have HY6:=Lib.hid (Blk.drew' hyb)
   generalize W5.drew=W6 at *
   clear x0 z0 HMT HXT hyb HYB f0 f1 f2 hrs hnl hwn hwt hbl2 hlast
   have x3:=HX6.out.cell 3
   have y3:=HY6.out.cell 3
   have g3:=HY6.out.frozen 3
   simp only [List.getElem?_toArray,List.getElem?_cons_zero,List.getElem?_cons_succ] at x3 y3
   have e1:IntKind.i64.wrap sr=sr:=IntWalk.i64_in _ (by omega)
   have e2:IntKind.i64.wrap (wt+sr)=wt+sr:=IntWalk.i64_in _ (by omega)
   have HM7:=Lib.hid (HM6.out.set 3 HQD.out (.int .i64 (wt+sr)) (N':=fun p=>wcN (ofP p (out.take i))) (T':=fun p=>wcT (l.getD (l.length-1) ev0).1 (ofP p (out.take (i+1)))) (fun p _=>rfl) (fun p hp=>by
    show _=wcT _ (ofP p (out.take (i+1)))
    rw [HTK.out,wt_next,if_neg hp]) (by
    show #[_,_,_,Value.int .i64 (wt+sr)]=_
    rw [HTK.out,wt_next,if_pos rfl,HWT.out,HLT.out]
    simp only
    rw [HSR.out]))
   have HX7:=Lib.hid (HX6.out.other ⟨Y,3,none⟩ (.int .i64 (wt+sr)) (HX6.out.ne HY6.out (by decide)))
   have HY7:=Lib.hid (show Blk (W6.setCell ⟨Y,3,none⟩ (.int .i64 (wt+sr))) Y 64 #[.int .i64 q1,.int .i64 q2,.int .i64 wn,.int .i64 (wt+sr)] from HY6.out.set 3 _)
   clear HM6 HX6 HY6
   go_upto_region 13 with fail
   go_region
   have HM8:=Lib.hid HM7.out.drew
   have HX8:=Lib.hid (Blk.drew' HX7.out)
   have HY8:=Lib.hid (Blk.drew' HY7.out)
   generalize (W6.setCell ⟨Y,3,none⟩ (.int .i64 (wt+sr))).drew=W8 at *
   clear x3 y3 g3 e1 e2 HM7 HX7 HY7
   obtain ⟨mx,hmx⟩:∃ z,max 0 sd=z:=⟨_,rfl⟩
   have hm01:0≤mx∧mx≤1:=by omega
   have x3:=HX8.out.cell 3
   have y2:=HY8.out.cell 2
   have g2:=HY8.out.frozen 2
   simp only [List.getElem?_toArray,List.getElem?_cons_zero,List.getElem?_cons_succ] at x3 y2
   have e2:IntKind.i64.wrap (wn+mx)=wn+mx:=IntWalk.i64_in _ (by omega)
   have HM9:=Lib.hid (WM.drew (HM8.out.set 2 HQD.out (.int .i64 (wn+mx)) (N':=fun p=>wcN (ofP p (out.take (i+1)))) (T':=fun p=>wcT (l.getD (l.length-1) ev0).1 (ofP p (out.take (i+1)))) (fun p hp=>by
    show _=wcN (ofP p (out.take (i+1)))
    rw [HTK.out,wn_next,if_neg hp]) (fun p _=>rfl) (by
    show #[_,_,Value.int .i64 (wn+mx),_]=_
    rw [HTK.out,wn_next,if_pos rfl,HWN.out]
    simp only
    rw [hmx])))
   clear HM8 HX8 HY8
   go_upto_region 14 with fail
   go_region
   go_wp2
   go_roundw
   case rel=>exact ⟨i+1,_,by omega,by go_num,HM9,HKN⟩
   case measure=>simp [intOf];omega
 rename World=>W1
 have hie:i=out.length:=by omega
 have hki:¬ ((i:Int)<(out.length:Int)):=by omega
 have hM2:=hM.out
 have hK2:=hK.out
 rw [hie,List.take_length] at hM2 hK2
 have HM:=Lib.hid hM2
 have HK:=Lib.hid hK2
 have hnd:=hM2.mp.nodup
 have hall:=allFrom_len HGD.out.r 0
 have hDl:D.length≤4000:=by
  have h1:(D.map (·.1)).length≤(allFrom 0 S.rs).length:=nodup_lenP hnd (fun p hp=>by
   obtain ⟨x,hx,rfl⟩:=(hK2 p).1 hp
   exact (chg_all HSB.out HGP.out HCG.out hx).1)
  rw [List.length_map] at h1
  have:=HGD.out.rs
  omega
 have HND:=Lib.hid hnd
 have hmp:=hM2.mp
 have hsz1:=hM2.be.size
 clear hM hM2 hK hK2 hie hnd hall hi
 obtain ⟨N,hN⟩:∃ N:Pp→Int,(fun p=>wcN (ofP p out))=N:=⟨_,rfl⟩
 obtain ⟨T,hT⟩:∃ T:Pp→Int,(fun p=>wcT (l.getD (l.length-1) ev0).1 (ofP p out))=T:=⟨_,rfl⟩
 rw [hN,hT] at HM
 have HNT:=Lib.hid (show ∀ m:List We,m.Perm (D.map (wrow N T))→m.Pairwise (fun a b=>¬ weLt b a)→m=wearL S B l from fun m hm hs=>by
  rw [← hN,← hT] at hm
  exact wear_perm HSB.out HGP.out HCG.out HK.out HND.out hm hs)
 clear hN hT HK HBD
 go_wp2_with (at_range;refine wpList_range_mp _ rfl _ 121 rfl 45 122 Tryz.underlying121 rfl hmp ?_;intro w5 hrg5 hg5 hs5)
 try go_frame
 have hst:RowKit.Hid (w5.ownsRow (W1.heap.size+1) 64 4 (.slice none 0 0) (([]:List (Pp × Value)).map (wrow N T)).length (weCs (([]:List (Pp × Value)).map (wrow N T)))):=Lib.hid (World.ownsRow_nil _ _ _ _)
 have hrefl:RowKit.Hid (Below W1.heap.size W1 w5):=Lib.hid ⟨hg5.os,hg5.tape,hg5.output,hg5.size,fun k hk=>hg5.block k hk (by simp)⟩
 have HRG5:=Lib.hid hrg5
 clear hg5 hrg5 hmp hs5
 go_loopw [12] (fun v wi=>∃ done left:List (Pp × Value),RowKit.Hid (Rg ekP wi MB W1.heap.size D left)∧RowKit.Hid ((done++left).Perm D)∧RowKit.Hid (wi.ownsRow (W1.heap.size+1) 64 4 v (done.map (wrow N T)).length (weCs (done.map (wrow N T))))∧RowKit.Hid (Below W1.heap.size W1 wi)) (fun _ wi=>wi.rangeLeft MB W1.heap.size)
 case atStart=>exact ⟨[],D,HRG5,Lib.hid (List.Perm.refl _),hst,hrefl⟩
 clear HRG5 hst hrefl
 obtain ⟨done,left,hrg,hperm,hout,hB⟩:=hrel
 have hdl:done.length≤4000:=by
  have:=hperm.out.length_eq
  rw [List.length_append] at this
  omega
 have hszB:=hB.out.size
 go_wp2_with (at_next;refine wpList_next_mp _ rfl _ rfl rfl hrg.out ?_ ?_)
 ·intro hleft
  have hp:=hperm.out
  rw [hleft,List.append_nil] at hp
  have HPM:=Lib.hid (hp.map (wrow N T))
  have HSO:=Lib.hid (sortW_any (done.map (wrow N T)) (by rw [List.length_map];omega) (W1.heap.size+1) u12 wr hout.out)
  have HGE:=Lib.hid (fun j (e:u12.ownBlock=some j)=>row_ge hout.out e)
  clear hp hleft hperm hrg hout
  go_wp2_with fail
  refine (HSO.out).mono ?_
  rintro e w8 ⟨rfl,m,hm1,hm2,hm3,hg8⟩
  have hme:=HNT.out m (hm1.trans HPM.out) hm2
  subst hme
  have hb8:Below W1.heap.size W1 w8:=hB.out.grown hg8 hB.out.size (fun j e=>Nat.le_of_succ_le (HGE.out j e))
  have HO8:=Lib.hid (row_base hm3 (Nat.le_succ_of_le hsz1))
  have HB8:=Lib.hid (below_step HM.out.be hb8)
  clear hm1 hm2 hm3 hg8 hb8 HSO
  go_wp2
  go_ret2
  exact ⟨u12,by rw [HE.out];rfl,by rw [HWV.out];exact HO8.out,HB8.out⟩
 ·intro x1 x2 v w6 hin hrg6 hg6 hs6 hen
  have hinD:=hrg.out.sub _ hin
  obtain ⟨Y,rfl,hYl,hYb⟩:=HM.out.bl _ _ hinD
  have HPS:=Lib.hid (strike_perm hrg.out.nodup hin hperm.out)
  have HLT:=Lib.hid (strike_len hin)
  have HLE:=Lib.hid hrg.out.left_eq
  have hB6:Below W1.heap.size W1 w6:=hB.out.grown hg6 hB.out.size (fun j e=>by cases e;exact Nat.le_refl _)
  have HY6:=Lib.hid (hYb.below hB6)
  have HO6:=Lib.hid (hout.out.kept hg6 (.inr (Ne.symm (hrg.out.row hout.out).2)))
  have HR6:=Lib.hid hrg6
  have HB6:=Lib.hid hB6
  have hsz6:=hB6.size
  obtain ⟨a,ha⟩:∃ z,N (x1,x2)=z:=⟨_,rfl⟩
  obtain ⟨c,hc⟩:∃ z,T (x1,x2)=z:=⟨_,rfl⟩
  rw [ha,hc] at HY6
  have HRW:=Lib.hid (show ∀ v:Value,(done++[((x1,x2),v)]).map (wrow N T)=done.map (wrow N T)++[((x1,x2),a,c)] from fun v=>by
   rw [List.map_append]
   unfold wrow
   simp only [List.map_cons,List.map_nil,ha,hc])
  clear hin hinD hrg hperm hout hB hg6 hs6 hrg6 hB6 hYb ha hc
  simp only [ekP] at hen
  have y0:=HY6.out.cell 0
  have y1:=HY6.out.cell 1
  have y2:=HY6.out.cell 2
  have y3:=HY6.out.cell 3
  simp only [List.getElem?_toArray,List.getElem?_cons_zero,List.getElem?_cons_succ] at y0 y1 y2 y3
  obtain ⟨L,hL⟩:∃ L,done.map (wrow N T)=L:=⟨_,rfl⟩
  have hLl:L.length≤4000:=by rw [← hL,List.length_map];exact hdl
  rw [hL] at HO6 HRW
  clear hL
  try go_frame
  go_wp2_with (at_builtin;refine wpList_append_lies _ rfl _ _ 60 rfl (W1.heap.size+1) 64 i0 _ 4 32 Tryz.underlying60 hi0 hz0 hz1 hz2 rfl (by omega) _ _ _ rfl (HO6.out.alloc _) ⟨w6.heap.size,0,none⟩ 1 1 [.int .i64 x1,.int .i64 x2,.int .i64 a,.int .i64 c] rfl rfl (World.news_of_block (cs:=#[.int .i64 x1,.int .i64 x2,.int .i64 a,.int .i64 c]) (t:=64) (fr:=(0,0)) (heap_alloc_new w6 _)) (by simp [Value.oneCell']) (by omega) (by unfold maxLen;omega) (by omega) (by simp;omega) (w6.heap.size+1) (by simp) ?_;intro gg cap w8 hown8 hgrow hat8 hlt8)
  have HQ:=Lib.hid (wes_step (l:=L) (p:=(x1,x2)) (a:=a) (b:=c) hown8 rfl)
  have HB8:RowKit.Hid (Below W1.heap.size W1 w8):=Lib.hid ((HB6.out.alloc HB6.out.size _).grown hgrow (by have:=HB6.out.size;simp;omega) (fun j e=>Nat.le_of_succ_le (row_ge HO6.out e)))
  have hr7:=HR6.out.below ((Below.refl _ w6).alloc (Nat.le_refl _) (.cells #[.int .i64 x1,.int .i64 x2,.int .i64 a,.int .i64 c] 64))
  have HG8:=Lib.hid (hr7.kept hgrow (hr7.row (HO6.out.alloc _)).1 (hr7.row (HO6.out.alloc _)).2)
  clear hown8 hgrow hat8 hlt8 hr7
  go_wp2
  refine ⟨⟨done++[((x1,x2),.pointer (some ⟨Y,0,none⟩))],_,HG8,HPS,by rw [HRW.out];simpa only [List.length_append] using HQ,HB8⟩,?_⟩
  rw [HG8.out.left_eq,HLE.out]
  exact HLT.out
end Go.Proofs.YthhfmppealmblaaGreatDoor
namespace Go.Proofs.YthhfmppealmblaaGreatDoor
open Go.RowKit
set_option maxRecDepth 100000 in
set_option maxHeartbeats 3200000 in
theorem same_ints (l:List Int) (v u:Value) (w:World) (hv:ARd w v 1 (l.map iC)) (hu:ARd w u 1 (l.map iC)) (hl:l.length≤100000) :
  Calls Tryz.prog 35 #[v,u] w fun e w'=>e = .returned (.bool true)∧Below w.heap.size w w':=by
 obtain ⟨a,c,ev⟩:=hv.form
 obtain ⟨a2,c2,eu⟩:=hu.form
 rw [List.length_map] at ev eu
 subst ev
 subst eu
 have HV:=Lib.hid hv
 have HU:=Lib.hid hu
 go_enter Tryz.func35,Tryz.ntmps35
 go_wp2
 go_loopw [5] (fun x wr=>∃ k:Nat,k≤l.length∧x = .int .i64 k∧RowKit.Hid (Below w.heap.size w wr)) (fun x _=>l.length-(intOf x).toNat)
 case atStart=>exact ⟨0,by omega,rfl,Lib.hid (Below.refl _ _)⟩
 obtain ⟨k,hk,rfl,hW⟩:=hrel
 by_cases hlt:k<l.length
 ·obtain ⟨b,o,c',ev',hbl,hc⟩:=(HV.out.later hW.out).at k (by simpa using hlt)
  obtain ⟨b2,o2,c2',eu',hbl2,hc2⟩:=(HU.out.later hW.out).at k (by simpa using hlt)
  rw [List.getElem_map] at hc hc2
  rw [List.length_map] at ev' eu'
  have q0:wr.cell? ⟨b,o+k,none⟩=some (.int .i64 l[k]):=by have:=hc 0 _ rfl;rwa [Nat.mul_one] at this
  have r0:wr.cell? ⟨b2,o2+k,none⟩=some (.int .i64 l[k]):=by have:=hc2 0 _ rfl;rwa [Nat.mul_one] at this
  cases ev'
  cases eu'
  have hk2:(k:Int)<(l.length:Int):=by omega
  go_wp2_with fail
  go_quiet (fail)
  go_wp2
  go_roundw
  case rel=>exact ⟨k+1,by omega,by go_num,Lib.hid (below_drewN hW.out nq)⟩
  case measure=>simp [intOf];omega
 ·have hk2:¬ ((k:Int)<(l.length:Int)):=by omega
  go_wp2
  go_ret
  exact ⟨rfl,hW.out⟩
set_option maxRecDepth 100000 in
set_option maxHeartbeats 12800000 in
theorem same_hand {S:Sp} (hn:S.ds.length≤6) (f:Th→Int) (hs:S.ss.length≤1000) (hc:S.cs.length≤1000) (ak as' ac bk bs bc:Value) (w:World) (ha:HdRd w ak as' ac S f) (hb:HdRd w bk bs bc S f) :
  Calls Tryz.prog 32 #[.agg #[ak,as',ac],.agg #[bk,bs,bc]] w (BoR true w):=by
 obtain ⟨⟨a1,c1,rfl⟩,⟨a2,c2,rfl⟩,⟨a3,c3,rfl⟩⟩:=ha.forms
 obtain ⟨⟨b1,d1,rfl⟩,⟨b2,d2,rfl⟩,⟨b3,d3,rfl⟩⟩:=hb.forms
 have HA:=Lib.hid ha
 have HB:=Lib.hid hb
 have HW:=Lib.hid (below_two w (.cells #[.slice a1 S.ds.length c1,.slice a2 (onL f 2 S.ss.length).length c2,.slice a3 (onL f 3 S.cs.length).length c3] 70) (.cells #[.slice b1 S.ds.length d1,.slice b2 (onL f 2 S.ss.length).length d2,.slice b3 (onL f 3 S.cs.length).length d3] 70))
 have h1:=(Blk.new w 70 #[.slice a1 S.ds.length c1,.slice a2 (onL f 2 S.ss.length).length c2,.slice a3 (onL f 3 S.cs.length).length c3]).alloc (.cells #[.slice b1 S.ds.length d1,.slice b2 (onL f 2 S.ss.length).length d2,.slice b3 (onL f 3 S.cs.length).length d3] 70)
 have h2:=Blk.new (w.alloc (.cells #[.slice a1 S.ds.length c1,.slice a2 (onL f 2 S.ss.length).length c2,.slice a3 (onL f 3 S.cs.length).length c3] 70)) 70 #[.slice b1 S.ds.length d1,.slice b2 (onL f 2 S.ss.length).length d2,.slice b3 (onL f 3 S.cs.length).length d3]
 rw [World.size_alloc] at h2
 have H1:=Lib.hid h1
 have H2:=Lib.hid h2
 have HS:=Lib.hid (fun (W:World) (hb':Below w.heap.size w W)=>same_ints _ _ _ W (ha.stops.later hb') (hb.stops.later hb') (by have:=len_onL f 2 S.ss.length;omega))
 have HC:=Lib.hid (fun (W:World) (hb':Below w.heap.size w W)=>same_ints _ _ _ W (ha.cous.later hb') (hb.cous.later hb') (by have:=len_onL f 3 S.cs.length;omega))
 clear h1 h2 ha hb
 go_enter Tryz.func32,Tryz.ntmps32
 go_upto_region 1 with fail
 generalize (w.alloc (.cells #[.slice a1 S.ds.length c1,.slice a2 (onL f 2 S.ss.length).length c2,.slice a3 (onL f 3 S.cs.length).length c3] 70)).alloc (.cells #[.slice b1 S.ds.length d1,.slice b2 (onL f 2 S.ss.length).length d2,.slice b3 (onL f 3 S.cs.length).length d3] 70)=W at *
 have x0:W.cell? ⟨w.heap.size,0,none⟩=some (.slice a1 S.ds.length c1):=H1.out.cell 0
 have x1:W.cell? ⟨w.heap.size,1,none⟩=some (.slice a2 (onL f 2 S.ss.length).length c2):=H1.out.cell 1
 have y0:W.cell? ⟨w.heap.size+1,0,none⟩=some (.slice b1 S.ds.length d1):=H2.out.cell 0
 have y1:W.cell? ⟨w.heap.size+1,1,none⟩=some (.slice b2 (onL f 2 S.ss.length).length d2):=H2.out.cell 1
 have hq:((S.ds.length:Int)==(S.ds.length:Int))=true:=beq_self_eq_true _
 go_wp2_with fail
 refine (HS.out W HW.out).mono ?_
 rintro e W2 ⟨rfl,hb2⟩
 have HW2:=Lib.hid (below_step HW.out hb2)
 have K1:=Lib.hid (H1.out.below hb2)
 have K2:=Lib.hid (H2.out.below hb2)
 clear hb2 x0 x1 y0 y1 H1 H2 HS HW
 have x2:W2.cell? ⟨w.heap.size,2,none⟩=some (.slice a3 (onL f 3 S.cs.length).length c3):=K1.out.cell 2
 have y2:W2.cell? ⟨w.heap.size+1,2,none⟩=some (.slice b3 (onL f 3 S.cs.length).length d3):=K2.out.cell 2
 go_wp2_with fail
 refine (HC.out W2 HW2.out).mono ?_
 rintro e W3 ⟨rfl,hb3⟩
 have HW3:=Lib.hid (below_step HW2.out hb3)
 have L1:=Lib.hid (K1.out.below hb3)
 have L2:=Lib.hid (K2.out.below hb3)
 have HR0:=Lib.hid (Below.refl W3.heap.size W3)
 clear hb3 x2 y2 K1 K2 HC HW2 hq
 go_wp2
 go_loopw [5] (fun x wr=>∃ k:Nat,k≤S.ds.length∧x = .int .i64 k∧RowKit.Hid (Below W3.heap.size W3 wr)) (fun x _=>S.ds.length-(intOf x).toNat)
 case atStart=>exact ⟨0,Nat.zero_le _,rfl,HR0⟩
 clear HR0
 obtain ⟨k,hk,rfl,hJ⟩:=hrel
 have HBX:=Lib.hid (below_step HW3.out hJ.out)
 have x0:wr.cell? ⟨w.heap.size,0,none⟩=some (.slice a1 S.ds.length c1):=(L1.out.below hJ.out).cell 0
 have y0:wr.cell? ⟨w.heap.size+1,0,none⟩=some (.slice b1 S.ds.length d1):=(L2.out.below hJ.out).cell 0
 by_cases hkl:k<S.ds.length
 ·have hk2:(k:Int)<(S.ds.length:Int):=by omega
  obtain ⟨ba,oa,c',g,ev,g0,hg⟩:=(HA.out.later HBX.out).keyAt (d:=k) hkl
  cases ev
  obtain ⟨bb,ob,c',g',ev,g0',hg'⟩:=(HB.out.later HBX.out).keyAt (d:=k) hkl
  cases ev
  obtain ⟨av,cv,rfl⟩:=hg.intForm
  obtain ⟨av',cv',rfl⟩:=hg'.intForm
  have HS:=Lib.hid (fun (W:World) (hb':Below wr.heap.size wr W)=>same_ints _ _ _ W (hg.later hb') (hg'.later hb') (by have:=len_playedL f k;omega))
  have hdr:=hold4 (W0:=wr) ⟨Below.refl _ wr,x0,y0,g0,g0'⟩ ((Below.refl _ wr).drew)
  clear hg hg'
  go_upto_region 6 with fail
  go_region_held3 (fun w'=>Below wr.heap.size wr w'∧w'.cell? ⟨w.heap.size,0,none⟩=some (.slice (some ⟨ba,oa,none⟩) S.ds.length c1)∧w'.cell? ⟨w.heap.size+1,0,none⟩=some (.slice (some ⟨bb,ob,none⟩) S.ds.length d1)∧w'.cell? ⟨ba,oa+k,none⟩=some (.slice av (playedL f k).length cv)∧w'.cell? ⟨bb,ob+k,none⟩=some (.slice av' (playedL f k).length cv')) (first | exact hdr | assumption) (first | (go_at_call 35;(with_reducible refine (HS.out _ hdr.1).mono ?_);rintro e w2 ⟨rfl,hb2⟩;have hn:=hold4 hdr hb2;clear hb2))
  have HJ2:=Lib.hid (below_step hJ.out hn.1)
  clear hdr hn x0 y0 g0 g0' HS
  go_wp2
  go_roundw
  case rel=>exact ⟨k+1,by omega,by go_num,HJ2⟩
  case measure=>simp [intOf];omega
 ·have hk2:¬ (k:Int)<(S.ds.length:Int):=by omega
  go_wp2
  go_ret
  exact ⟨rfl,HBX.out⟩
end Go.Proofs.YthhfmppealmblaaGreatDoor
namespace Go.Proofs.YthhfmppealmblaaGreatDoor
open Go.RowKit
end Go.Proofs.YthhfmppealmblaaGreatDoor
namespace Go.Proofs.YthhfmppealmblaaGreatDoor
open Go.RowKit
end Go.Proofs.YthhfmppealmblaaGreatDoor
namespace Go.Proofs.YthhfmppealmblaaGreatDoor
end Go.Proofs.YthhfmppealmblaaGreatDoor
namespace Go.Proofs.YthhfmppealmblaaGreatDoor
end Go.Proofs.YthhfmppealmblaaGreatDoor
namespace Go.Proofs.YthhfmppealmblaaGreatDoor
theorem tks_same {l m:List Int} (hl:l.Pairwise (· < ·)) (hm:m.Pairwise (· < ·)) (h:∀ x,x∈l ↔ x∈m):l=m:=lt_same (lt:=fun a b=>a<b) (fun a h=>by omega) (fun a b h=>by omega) hl hm h
end Go.Proofs.YthhfmppealmblaaGreatDoor
namespace Go.Proofs.YthhfmppealmblaaGreatDoor
def offF (k:Int) (i:Nat) (f:Th→Int):Th→Int:=fun t=>if t=(k,0,(i:Int)) then 0 else f t
def IdleP (B:(Th→Int)→Pp→Bool) (l:List Ev) (k:Int) (i:Nat):Prop:=(∃ t∈ticksL [] l,upF l t (k,0,(i:Int))=1)∧∀ t∈ticksL [] l,upF l t (k,0,(i:Int))=1→∀ p,B (offF k i (upF l t)) p=B (upF l t) p
end Go.Proofs.YthhfmppealmblaaGreatDoor
namespace Go.Proofs.YthhfmppealmblaaGreatDoor
def DrwP (l:List Ev) (k:Int) (ms:List Nat) (i:Nat):Prop:=∃ j∈ms,onV (l.take (j+1)) (k,0,(i:Int))=1
def FlP (B:(Th→Int)→Pp→Bool) (l:List Ev) (k:Int) (ms:List Nat) (i:Nat):Prop:=∃ j∈ms,onV (l.take (j+1)) (k,0,(i:Int))=1∧B (offF k i (onV (l.take (j+1))))≠B (onV (l.take (j+1)))
theorem drwP_snoc {l:List Ev} {k:Int} {ms:List Nat} {j i:Nat}:DrwP l k (ms++[j]) i ↔ DrwP l k ms i∨onV (l.take (j+1)) (k,0,(i:Int))=1:=by
 unfold DrwP
 constructor
 ·rintro ⟨x,hx,h⟩
  rcases List.mem_append.1 hx with hx | hx
  ·exact .inl ⟨x,hx,h⟩
  ·rw [List.mem_singleton] at hx
   subst hx
   exact .inr h
 ·rintro (⟨x,hx,h⟩ | h)
  ·exact ⟨x,List.mem_append.2 (.inl hx),h⟩
  ·exact ⟨j,by simp,h⟩
theorem flP_snoc {B:(Th→Int)→Pp→Bool} {l:List Ev} {k:Int} {ms:List Nat} {j i:Nat}:FlP B l k (ms++[j]) i ↔ FlP B l k ms i∨onV (l.take (j+1)) (k,0,(i:Int))=1∧B (offF k i (onV (l.take (j+1))))≠B (onV (l.take (j+1))):=by
 unfold FlP
 constructor
 ·rintro ⟨x,hx,h⟩
  rcases List.mem_append.1 hx with hx | hx
  ·exact .inl ⟨x,hx,h⟩
  ·rw [List.mem_singleton] at hx
   subst hx
   exact .inr h
 ·rintro (⟨x,hx,h⟩ | h)
  ·exact ⟨x,List.mem_append.2 (.inl hx),h⟩
  ·exact ⟨j,by simp,h⟩
theorem mom_tick {l:List Ev} (ha:Asc l) {j:Nat} (hj:j∈momI l l.length):(l.getD j ev0).1∈ticksL [] l∧upF l (l.getD j ev0).1=onV (l.take (j+1)):=by
 obtain ⟨hil,hm⟩:=mem_momI.1 hj
 rw [← ticks_mom ha]
 refine ⟨List.mem_map.2 ⟨j,hj,rfl⟩,?_⟩
 unfold upF
 rw [getD_at hil,upN_mom ha hil hm]
theorem tick_mom {l:List Ev} (ha:Asc l) {t:Int} (ht:t∈ticksL [] l):∃ j∈momI l l.length,upF l t=onV (l.take (j+1)):=by
 rw [← ticks_mom ha] at ht
 obtain ⟨j,hj,rfl⟩:=List.mem_map.1 ht
 exact ⟨j,hj,(mom_tick ha hj).2⟩
theorem idleP_mom {B:(Th→Int)→Pp→Bool} {l:List Ev} (ha:Asc l) {k:Int} {i:Nat}:IdleP B l k i ↔ DrwP l k (momI l l.length) i∧¬ FlP B l k (momI l l.length) i:=by
 unfold IdleP DrwP FlP
 constructor
 ·rintro ⟨⟨t,ht,h1⟩,h2⟩
  constructor
  ·obtain ⟨j,hj,e⟩:=tick_mom ha ht
   exact ⟨j,hj,by rw [← e];exact h1⟩
  ·rintro ⟨j,hj,h3,h4⟩
   obtain ⟨m1,m2⟩:=mom_tick ha hj
   refine h4 (funext fun p=>?_)
   have:=h2 _ m1 (by rw [m2];exact h3) p
   rwa [m2] at this
 ·rintro ⟨⟨j,hj,h1⟩,h2⟩
  obtain ⟨m1,m2⟩:=mom_tick ha hj
  refine ⟨⟨_,m1,by rw [m2];exact h1⟩,fun t ht h3 p=>?_⟩
  obtain ⟨j2,hj2,e⟩:=tick_mom ha ht
  rw [e] at h3 ⊢
  have h4:B (offF k i (onV (l.take (j2+1))))=B (onV (l.take (j2+1))):=Classical.byContradiction fun q=>h2 ⟨j2,hj2,h3,q⟩
  rw [h4]
def IdL (B:(Th→Int)→Pp→Bool) (l:List Ev) (k:Int) (n:Nat) (L:List Int):Prop:=L.Pairwise (· < ·)∧∀ x,x∈L ↔ ∃ i:Nat,x=(i:Int)∧i<n∧IdleP B l k i
theorem IdL.one {B:(Th→Int)→Pp→Bool} {l:List Ev} {k:Int} {n:Nat} {L M:List Int} (h:IdL B l k n L) (h':IdL B l k n M):L=M:=tks_same h.1 h'.1 fun x=>(h.2 x).trans (h'.2 x).symm
end Go.Proofs.YthhfmppealmblaaGreatDoor
namespace Go.Proofs.YthhfmppealmblaaGreatDoor
open Go.RowKit
end Go.Proofs.YthhfmppealmblaaGreatDoor
namespace Go.Proofs.YthhfmppealmblaaGreatDoor
open Go.RowKit
theorem OnOk.off {S:Sp} {f:Th→Int} {k:Int} {i:Nat} (h:OnOk S f):OnOk S (offF k i f):=by
 have h0:∀ t,offF k i f t≠0→f t≠0:=fun t ht=>by
  unfold offF at ht
  split at ht
  ·exact absurd rfl ht
  ·exact ht
 refine ⟨fun d x hx=>h.key d x (h0 _ hx),fun t ht=>?_,fun d x hx=>h.stop d x (h0 _ hx),fun d x hx=>h.cou d x (h0 _ hx)⟩
 unfold offF
 split
 ·exact .inl rfl
 ·exact h.bin t ht
theorem sndL_same {S:Sp} {B:(Th→Int)→Pp→Bool} (hB:SndIs S B) (g:∀ x∈S.ss,∀ key,∀ p∈playsL x key,p∈allFrom 0 S.rs) {f f':Th→Int}:sndL S B f=sndL S B f' ↔ B f=B f':=by
 constructor
 ·intro h
  funext p
  have hin:∀ f:Th→Int,B f p=true ↔ p∈sndL S B f:=fun f=>by
   unfold sndL
   rw [List.mem_filter]
   exact ⟨fun hb=>⟨snd_all g ((hB f p).1 hb),hb⟩,fun hb=>hb.2⟩
  rw [Bool.eq_iff_iff,hin,hin,h]
 ·intro h
  unfold sndL
  rw [h]
end Go.Proofs.YthhfmppealmblaaGreatDoor
namespace Go.Proofs.YthhfmppealmblaaGreatDoor
def exC2:List Cl:=[((0,40),10,-1),((0,52),10,50)]
def exE2:List Ev:=[(0,2,0,0,1),(10,1,0,40,1),(10,1,0,52,1),(20,3,0,0,1),(40,5,0,7,0),(50,1,0,52,0)]
theorem kn_cls:clsE (exS 37) exEv exC2=0:=by decide +kernel
theorem kn_fa:faCl (exS 37) (sndB (exS 37)) exEv exC2=[(2,(0,40),30,-1)]:=by decide +kernel
theorem kn_out {m:List Fa} {c:Int} (h:ClP (exS 37) (sndB (exS 37)) exEv exC2 m c):m=[(2,(0,40),30,-1)]∧c=0 :=
 ClP.one h (.inr ⟨kn_cls,.inr ⟨by rw [kn_fa];decide,by rw [kn_fa],by simp,rfl⟩⟩)
theorem kn_tw:twE (exS 37) exEv exE2=0:=by decide +kernel
theorem kn_ft:faTw (exS 37) (sndB (exS 37)) exEv exE2=[(2,(0,40),30,-1),(2,(0,52),50,-1)]:=by decide +kernel
theorem kn_two {m:List Fa} {c:Int} (h:TwP (exS 37) (sndB (exS 37)) exEv exE2 m c):m=[(2,(0,40),30,-1),(2,(0,52),50,-1)]∧c=0 :=
 TwP.one h (.inr ⟨kn_tw,.inr ⟨by rw [kn_ft];decide,by rw [kn_ft],by simp [faLe,faLt],rfl⟩⟩)
def idC (S:Sp) (B:(Th→Int)→Pp→Bool) (l:List Ev) (k:Int) (i:Nat):Bool:=((ticksL [] l).any fun t=>decide (upF l t (k,0,(i:Int))=1)) && (ticksL [] l).all fun t=>!decide (upF l t (k,0,(i:Int))=1) || decide (sndL S B (offF k i (upF l t))=sndL S B (upF l t))
theorem idC_is {S:Sp} {B:(Th→Int)→Pp→Bool} (hB:SndIs S B) (g:∀ x∈S.ss,∀ key,∀ p∈playsL x key,p∈allFrom 0 S.rs) (l:List Ev) (k:Int) (i:Nat):IdleP B l k i ↔ idC S B l k i=true:=by
 unfold idC IdleP
 rw [Bool.and_eq_true,List.any_eq_true,List.all_eq_true]
 constructor
 ·rintro ⟨⟨t,ht,h1⟩,h2⟩
  refine ⟨⟨t,ht,decide_eq_true h1⟩,fun t ht=>?_⟩
  by_cases q:upF l t (k,0,(i:Int))=1
  ·rw [decide_eq_true q,decide_eq_true ((sndL_same hB g).2 (funext fun p=>h2 t ht q p))]
   rfl
  ·rw [decide_eq_false q]
   rfl
 ·rintro ⟨⟨t,ht,h1⟩,h2⟩
  refine ⟨⟨t,ht,of_decide_eq_true h1⟩,fun t ht q p=>?_⟩
  have h:=h2 t ht
  rw [decide_eq_true q,Bool.not_true,Bool.false_or,decide_eq_true_iff] at h
  rw [(sndL_same hB g).1 h]
theorem kn_plays:∀ x∈(exS 37).ss,∀ key,∀ p∈playsL x key,p∈allFrom 0 (exS 37).rs:=fun _ hx _=>(spGood (audE_parts ex_aud).1).plays hx
theorem kn_s0:idC (exS 37) (sndB (exS 37)) exEv 2 0=false∧idC (exS 37) (sndB (exS 37)) exEv 2 1=false∧idC (exS 37) (sndB (exS 37)) exEv 2 2=false∧idC (exS 37) (sndB (exS 37)) exEv 3 0=true:=by decide +kernel
theorem kn_s:IdL (sndB (exS 37)) exEv 2 (exS 37).ss.length []:=by
 refine ⟨List.Pairwise.nil,fun x=>⟨fun h=>(by cases h),?_⟩⟩
 rintro ⟨i,rfl,hi,h⟩
 rw [idC_is (sndB_is exS_thr) kn_plays] at h
 obtain ⟨h0,h1,h2,_⟩:=kn_s0
 have hi3:i<3:=hi
 match i,hi3 with
 | 0,_=>rw [h0] at h;cases h
 | 1,_=>rw [h1] at h;cases h
 | 2,_=>rw [h2] at h;cases h
theorem kn_c:IdL (sndB (exS 37)) exEv 3 (exS 37).cs.length [0]:=by
 refine ⟨List.pairwise_singleton _ _,fun x=>⟨fun h=>?_,?_⟩⟩
 ·rw [List.mem_singleton] at h
  exact ⟨0,h,(by decide:0<1),(idC_is (sndB_is exS_thr) kn_plays _ _ _).2 kn_s0.2.2.2⟩
 ·rintro ⟨i,rfl,hi,_⟩
  have hi3:i<1:=hi
  rw [List.mem_singleton]
  omega
theorem kn_wear:wearV (exS 37) (sndB (exS 37)) exEv=[((0,40),1,20),((0,52),1,40)]:=by decide +kernel
theorem kn_on:onL (onV exEv) 2 (exS 37).ss.length=[0]∧onL (onV exEv) 3 (exS 37).cs.length=[0]∧playedL (onV exEv) 0=[]:=by decide +kernel
end Go.Proofs.YthhfmppealmblaaGreatDoor
namespace Go.Proofs.YthhfmppealmblaaGreatDoor
def msA (ms:List Nat) (j i m:Nat):List Nat:=if m<i then ms++[j] else ms
def IdM (B:(Th→Int)→Pp→Bool) (l:List Ev) (k:Int) (n:Nat) (ms:List Nat) (j i:Nat) (Dm Df:List Int):Prop:=(∀ x,x∈Dm ↔ ∃ m:Nat,x=(m:Int)∧m<n∧DrwP l k (msA ms j i m) m∧¬ FlP B l k (msA ms j i m) m)∧∀ x,x∈Df ↔ ∃ m:Nat,x=(m:Int)∧m<n∧FlP B l k (msA ms j i m) m
theorem msA_ne {ms:List Nat} {j i m:Nat} (h:m≠i):msA ms j (i+1) m=msA ms j i m:=by
 unfold msA
 by_cases q:m<i
 ·rw [if_pos q,if_pos (by omega)]
 ·rw [if_neg q,if_neg (by omega)]
theorem msA_at {ms:List Nat} {j i:Nat}:msA ms j (i+1) i=ms++[j]:=if_pos (Nat.lt_succ_self i)
theorem IdM.step {B:(Th→Int)→Pp→Bool} {l:List Ev} {k:Int} {n:Nat} {ms:List Nat} {j i:Nat} {Dm Df Dm' Df':List Int} (h:IdM B l k n ms j i Dm Df) (hi:i<n) (hm:∀ x:Int,x∈Dm' ↔ if x=(i:Int) then DrwP l k (ms++[j]) i∧¬ FlP B l k (ms++[j]) i else x∈Dm) (hf:∀ x:Int,x∈Df' ↔ if x=(i:Int) then FlP B l k (ms++[j]) i else x∈Df):IdM B l k n ms j (i+1) Dm' Df':=by
 refine ⟨fun x=>?_,fun x=>?_⟩
 ·rw [hm x]
  by_cases e:x=(i:Int)
  ·rw [if_pos e]
   constructor
   ·intro q
    exact ⟨i,e,hi,by rw [msA_at];exact q⟩
   ·rintro ⟨m,e2,_,q⟩
    have:m=i:=by omega
    subst this
    rw [msA_at] at q
    exact q
  ·rw [if_neg e,h.1 x]
   constructor
   ·rintro ⟨m,e2,h2,q⟩
    exact ⟨m,e2,h2,by rw [msA_ne (by omega)];exact q⟩
   ·rintro ⟨m,e2,h2,q⟩
    rw [msA_ne (by omega)] at q
    exact ⟨m,e2,h2,q⟩
 ·rw [hf x]
  by_cases e:x=(i:Int)
  ·rw [if_pos e]
   constructor
   ·intro q
    exact ⟨i,e,hi,by rw [msA_at];exact q⟩
   ·rintro ⟨m,e2,_,q⟩
    have:m=i:=by omega
    subst this
    rw [msA_at] at q
    exact q
  ·rw [if_neg e,h.2 x]
   constructor
   ·rintro ⟨m,e2,h2,q⟩
    exact ⟨m,e2,h2,by rw [msA_ne (by omega)];exact q⟩
   ·rintro ⟨m,e2,h2,q⟩
    rw [msA_ne (by omega)] at q
    exact ⟨m,e2,h2,q⟩
theorem IdM.has {B:(Th→Int)→Pp→Bool} {l:List Ev} {k:Int} {n:Nat} {ms:List Nat} {j i:Nat} {Dm Df:List Int} (h:IdM B l k n ms j i Dm Df) (hi:i<n):((i:Int)∈Df ↔ FlP B l k ms i)∧((i:Int)∈Dm ↔ DrwP l k ms i∧¬ FlP B l k ms i):=by
 have e:msA ms j i i=ms:=if_neg (Nat.lt_irrefl i)
 constructor
 ·rw [h.2]
  constructor
  ·rintro ⟨m,e2,_,q⟩
   have:m=i:=by omega
   subst this
   rw [e] at q
   exact q
  ·intro q
   exact ⟨i,rfl,hi,by rw [e];exact q⟩
 ·rw [h.1]
  constructor
  ·rintro ⟨m,e2,_,q⟩
   have:m=i:=by omega
   subst this
   rw [e] at q
   exact q
  ·intro q
   exact ⟨i,rfl,hi,by rw [e];exact q⟩
theorem IdM.skip {B:(Th→Int)→Pp→Bool} {l:List Ev} {k:Int} {n:Nat} {ms:List Nat} {j i:Nat} {Dm Df:List Int} (h:IdM B l k n ms j i Dm Df) (hi:i<n) (hs:onV (l.take (j+1)) (k,0,(i:Int))≠1∨(i:Int)∈Df):IdM B l k n ms j (i+1) Dm Df:=by
 obtain ⟨h1,h2⟩:=h.has hi
 refine h.step hi (fun x=>?_) (fun x=>?_)
 ·by_cases e:x=(i:Int)
  ·rw [if_pos e,e,h2,drwP_snoc,flP_snoc]
   rcases hs with q | q
   ·exact ⟨fun z=>⟨.inl z.1,fun y=>y.elim z.2 (fun u=>q u.1)⟩,fun z=>⟨z.1.elim id (fun u=>absurd u q),fun y=>z.2 (.inl y)⟩⟩
   ·exact ⟨fun z=>absurd (h1.1 q) z.2,fun z=>absurd (.inl (h1.1 q)) z.2⟩
  ·rw [if_neg e]
 ·by_cases e:x=(i:Int)
  ·rw [if_pos e,e,h1,flP_snoc]
   rcases hs with q | q
   ·exact ⟨.inl,fun y=>y.elim id (fun u=>absurd u.1 q)⟩
   ·exact ⟨.inl,fun _=>h1.1 q⟩
  ·rw [if_neg e]
theorem IdM.zero {B:(Th→Int)→Pp→Bool} {l:List Ev} {k:Int} {n:Nat} (j:Nat):IdM B l k n [] j 0 [] []:=by
 refine ⟨fun x=>⟨fun h=>(by cases h),?_⟩,fun x=>⟨fun h=>(by cases h),?_⟩⟩
 ·rintro ⟨m,_,_,⟨y,hy,_⟩,_⟩
  unfold msA at hy
  rw [if_neg (Nat.not_lt_zero m)] at hy
  cases hy
 ·rintro ⟨m,_,_,⟨y,hy,_⟩⟩
  unfold msA at hy
  rw [if_neg (Nat.not_lt_zero m)] at hy
  cases hy
theorem IdM.next {B:(Th→Int)→Pp→Bool} {l:List Ev} {k:Int} {n:Nat} {ms:List Nat} {j:Nat} {Dm Df:List Int} (h:IdM B l k n ms j n Dm Df) (j':Nat):IdM B l k n (ms++[j]) j' 0 Dm Df:=by
 have e1:∀ m,m<n→msA ms j n m=ms++[j]:=fun m hm=>if_pos hm
 have e2:∀ m,msA (ms++[j]) j' 0 m=ms++[j]:=fun m=>if_neg (Nat.not_lt_zero m)
 refine ⟨fun x=>(h.1 x).trans ?_,fun x=>(h.2 x).trans ?_⟩
 ·constructor
  ·rintro ⟨m,a,b,q⟩
   rw [e1 m b] at q
   exact ⟨m,a,b,by rw [e2];exact q⟩
  ·rintro ⟨m,a,b,q⟩
   rw [e2] at q
   exact ⟨m,a,b,by rw [e1 m b];exact q⟩
 ·constructor
  ·rintro ⟨m,a,b,q⟩
   rw [e1 m b] at q
   exact ⟨m,a,b,by rw [e2];exact q⟩
  ·rintro ⟨m,a,b,q⟩
   rw [e2] at q
   exact ⟨m,a,b,by rw [e1 m b];exact q⟩
theorem IdM.keep {B:(Th→Int)→Pp→Bool} {l:List Ev} {k:Int} {n:Nat} {ms:List Nat} {j i:Nat} {Dm Df Dm':List Int} (h:IdM B l k n ms j i Dm Df) (hi:i<n) (hd:onV (l.take (j+1)) (k,0,(i:Int))=1) (hn:(i:Int) ∉ Df) (hc:B (offF k i (onV (l.take (j+1))))=B (onV (l.take (j+1)))) (hm:∀ x:Int,x∈Dm' ↔ x=(i:Int)∨x∈Dm):IdM B l k n ms j (i+1) Dm' Df:=by
 obtain ⟨h1,h2⟩:=h.has hi
 have hnf:¬ FlP B l k ms i:=fun q=>hn (h1.2 q)
 have hnf2:¬ FlP B l k (ms++[j]) i:=fun q=>(flP_snoc.1 q).elim hnf (fun u=>u.2 hc)
 refine h.step hi (fun x=>?_) (fun x=>?_)
 ·rw [hm x]
  by_cases e:x=(i:Int)
  ·rw [if_pos e]
   exact ⟨fun _=>⟨drwP_snoc.2 (.inr hd),hnf2⟩,fun _ => .inl e⟩
  ·rw [if_neg e]
   exact ⟨fun q=>q.elim (fun u=>absurd u e) id,.inr⟩
 ·by_cases e:x=(i:Int)
  ·rw [if_pos e,e]
   exact ⟨fun q=>absurd q hn,fun q=>absurd q hnf2⟩
  ·rw [if_neg e]
theorem IdM.fail {B:(Th→Int)→Pp→Bool} {l:List Ev} {k:Int} {n:Nat} {ms:List Nat} {j i:Nat} {Dm Df Dm' Df':List Int} (h:IdM B l k n ms j i Dm Df) (hi:i<n) (hd:onV (l.take (j+1)) (k,0,(i:Int))=1) (hc:B (offF k i (onV (l.take (j+1))))≠B (onV (l.take (j+1)))) (hm:∀ x:Int,x∈Dm' ↔ x≠(i:Int)∧x∈Dm) (hf:∀ x:Int,x∈Df' ↔ x=(i:Int)∨x∈Df):IdM B l k n ms j (i+1) Dm' Df':=by
 have hf2:FlP B l k (ms++[j]) i:=flP_snoc.2 (.inr ⟨hd,hc⟩)
 refine h.step hi (fun x=>?_) (fun x=>?_)
 ·rw [hm x]
  by_cases e:x=(i:Int)
  ·rw [if_pos e]
   exact ⟨fun q=>absurd e q.1,fun q=>absurd hf2 q.2⟩
  ·rw [if_neg e]
   exact ⟨fun q=>q.2,fun q=>⟨e,q⟩⟩
 ·rw [hf x]
  by_cases e:x=(i:Int)
  ·rw [if_pos e]
   exact ⟨fun _=>hf2,fun _ => .inl e⟩
  ·rw [if_neg e]
   exact ⟨fun q=>q.elim (fun u=>absurd u e) id,.inr⟩
end Go.Proofs.YthhfmppealmblaaGreatDoor
namespace Go.Proofs
open Go.Shelf
open Go.Sort Go.RowKit in
theorem Tryz.slices_Sort_int (blk off cap:Nat) (zs:List Int) (w:World) (hH:Holds (Value.int .i64) w blk off zs.toArray) (hblk:blk<w.heap.size) (hsz:zs.length<4611686018427387904) :
  Calls Tryz.prog 92 #[.slice (some ⟨blk,off,none⟩) zs.length cap] w fun e w' =>
   e = .returned (.tuple #[])∧∃ n os,w'=grow (putRow (Value.int .i64) (Sort.ahead w n) blk off (zs.mergeSort fun x y=>decide (x≤y)).toArray) os:=Any.slices_Sort_int Tryz.lays189 blk off cap zs w hH hblk hsz
open Go.RowKit Go.Sort in
theorem Tryz.slices_Sort_int_none (p:Option Addr) (cap:Nat) (w:World) :
  Calls Tryz.prog 92 #[.slice p 0 cap] w fun e w'=>e = .returned (.tuple #[])∧w'=w:=Any.slices_Sort_int_none Tryz.lays189 p cap w
end Go.Proofs
