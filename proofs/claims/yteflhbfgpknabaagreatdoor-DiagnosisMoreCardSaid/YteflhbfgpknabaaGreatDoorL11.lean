/-
  A part of the proof: UH.
-/
import Derived.Test.YteflhbfgpknabaaGreatDoorL09
import Derived.Test.YteflhbfgpknabaaGreatDoorL10
import Derived.Lib.AppendZeros
import Derived.Deep.RegionLaw
set_option maxRecDepth 100000
set_option maxHeartbeats 6400000
namespace Go.Proofs.YteflhbfgpknabaaGreatDoor
open Go.Lib (hid)
open Go.RowKit
theorem gp_info:(Tryz.prog.info? 251).map (fun i=>(i.zero,i.size,i.bytes))=some (some (.agg #[.int .i64 0,.int .i64 0]),2,16):=by kernel_rfl
def ReE (w:World) (A:AsA) (v1 v2 v3 v4 vk vs vc:Value) (n:Nat) (s:List Pl × List Pl) (W:World) (e:Ending) (W':World):Prop :=
 ∃ v,e = .returned v∧AsM w A v1 v2 v3 v4 vk vs vc n s.1 W'∧W'.ownsRow W.heap.size 251 2 v s.2.length (gpCs s.2)∧Two A W W'
theorem ARd.gpAt {w:World} {v:Value} {l:List Pl} (h:ARd w v 2 (l.map gpC)) (i:Nat) (hi:i<l.length):∃ b o c,v = .slice (some ⟨b,o,none⟩) l.length c∧b<w.heap.size∧w.cell? ⟨b,o+i * 2,none⟩=some (.int .i64 l[i].1)∧w.cell? ⟨b,o+i * 2+1,none⟩=some (.int .i64 l[i].2):=by
 obtain ⟨b,o,c,e,hlt,hc⟩:=h.at i (by simpa using hi)
 rw [List.getElem_map] at hc
 rw [List.length_map] at e
 exact ⟨b,o,c,e,hlt,hc 0 _ rfl,hc 1 _ rfl⟩
theorem ARd.of_gps {W:World} {base:Nat} {T:TypeId} {v:Value} {l:List Pl} (h:W.ownsRow base T 2 v l.length (gpCs l)):ARd W v 2 (l.map gpC) :=
 ARd.of_row (rows:=l.map gpC) (fun r hr=>by obtain ⟨x,_,rfl⟩:=List.mem_map.1 hr;rfl) (by rw [List.length_map];exact h)
theorem rchM_len (S:Sp) (i:Nat):∀ (l:List Pl) (s:List Pl × List Pl),s.2.length≤s.1.length→(rchM S i l s).2.length≤(rchM S i l s).1.length
 | [],_,h=>h
 | x :: l,s,h=>by
  rw [rchM]
  refine rchM_len S i l _ ?_
  simp only
  unfold addM addQ
  split
  ·rw [List.length_append,List.length_append];simpa using h
  ·exact h
theorem rchM_next (S:Sp) (i:Nat) {l:List Pl} {j:Nat} (hj:j<l.length) (s:List Pl × List Pl):rchM S i (l.take (j+1)) s=(addM S (rchM S i (l.take j) s).1 (thrTo S l[j] i),addQ S (rchM S i (l.take j) s).1 (rchM S i (l.take j) s).2 (thrTo S l[j] i)):=by
 rw [List.take_succ_eq_append_getElem hj,rchM_snoc]
theorem rchM_ok (S:Sp) (i:Nat):∀ (l:List Pl) (s:List Pl × List Pl),s.1.Nodup→(∀ x∈s.1,keyOk S x=true)→(rchM S i l s).1.Nodup∧∀ x∈(rchM S i l s).1,keyOk S x=true
 | [],_,h,k=>⟨h,k⟩
 | x :: l,s,h,k=>by
  rw [rchM]
  refine rchM_ok S i l _ (nodup_addM h) fun y hy=>?_
  rcases mem_addM.1 hy with hy | ⟨e,hy⟩
  ·exact k y hy
  ·rw [e];exact hy
theorem keys_len {S:Sp} (hc:(checkP S).2=0) {m:List Pl} (h:m.Nodup) (k:∀ x∈m,keyOk S x=true):m.length≤768 :=
 pl_count h fun x hx=>by
  have:=keyOk_lt (spGood hc).ds (spGood hc).d (k x hx)
  omega
theorem reached_any (v1 v2 v3 v4 vk vs vc:Value) (S:Sp) (hc:(checkP S).2=0) (fp:Nat→Value) (w:World) (hsp:SpRd w v1 v2 v3 v4 fp S) (A:AsA) (i:Nat) (hi:i<S.cs.length) (l:List Pl) (hl:l.length≤1000) (hx:∀ x∈l,0≤x.2∧x.2<128)
  (gv:Value) (m:List Pl) (hnd:m.Nodup) (hok:∀ x∈m,keyOk S x=true) (W:World) (h:AsM w A v1 v2 v3 v4 vk vs vc S.ds.length m W) (base:Nat) (hg:W.ownsRow base 251 2 gv l.length (gpCs l)) :
  Calls Tryz.prog 194 #[.int .i64 i,gv,.pointer (some ⟨A.b0,0,none⟩),.pointer (some ⟨A.pa,0,none⟩)] W (ReE w A v1 v2 v3 v4 vk vs vc S.ds.length (rchM S i l (m,[])) W):=by
 obtain ⟨i0,hi0,hz0,hz1,hz2⟩:=info_parts gp_info
 have hsg:=spGood hc
 have hcs:=hsg.cs
 have hds:=hsg.ds
 obtain ⟨b,o,c,ev,hbl,r0,r1,r2,r3,r4,r5⟩:=hsp.cAt i hi
 obtain ⟨p0,p1,p2,p3,p4,p5,p6,p7,_⟩:=cp_good hc (List.getElem_mem hi)
 have HTH:=hid (show ∀ x:Pl,thrTo S x i=(S.cs[i].to,x.2+S.cs[i].shift) from fun x=>by unfold thrTo;rw [List.getElem?_eq_getElem hi])
 obtain ⟨nm,hnm⟩:∃ x,S.cs[i].name=x:=⟨_,rfl⟩
 obtain ⟨frI,hfr⟩:∃ x,S.cs[i].frm=x:=⟨_,rfl⟩
 obtain ⟨toI,hto⟩:∃ x,S.cs[i].to=x:=⟨_,rfl⟩
 obtain ⟨sh,hsh⟩:∃ x,S.cs[i].shift=x:=⟨_,rfl⟩
 obtain ⟨on,hon2⟩:∃ x,S.cs[i].only=x:=⟨_,rfl⟩
 obtain ⟨th,hth⟩:∃ x,S.cs[i].thr=x:=⟨_,rfl⟩
 rw [hnm] at r0
 rw [hfr] at r1
 rw [hto] at r2 p2 p3 HTH
 rw [hsh] at r3 p4 p5 HTH
 rw [hon2] at r4
 rw [hth] at r5
 obtain ⟨to',rfl⟩:=Int.eq_ofNat_of_zero_le p2
 have hto2:to'<S.ds.length:=by omega
 obtain ⟨b',o',c',ev',hbl',q0,q1,q2⟩:=hsp.dAt to' hto2
 have hki:=fun key=>keyIn_at hto2 key
 obtain ⟨dn,hdn⟩:∃ x,S.ds[to'].name=x:=⟨_,rfl⟩
 obtain ⟨lo,hlo⟩:∃ x,S.ds[to'].lo=x:=⟨_,rfl⟩
 obtain ⟨up,hup⟩:∃ x,S.ds[to'].hi=x:=⟨_,rfl⟩
 rw [hdn] at q0
 rw [hlo] at q1
 rw [hup] at q2
 have hdv:0≤lo∧up≤127:=by
  have:=hsg.d _ (List.getElem_mem hto2)
  unfold dvE at this
  split at this
  ·rw [hlo,hup] at *;omega
  ·cases this
 have HKO:=hid (show ∀ key:Int,keyOk S ((to':Int),key)=decide (lo≤key∧key≤up) from fun key=>by
  unfold keyOk
  simp only
  rw [hki key,hlo,hup,decide_eq_true (show (0:Int)≤(to':Int) by omega),decide_eq_true (show (to':Int)<(S.ds.length:Int) by omega),Bool.true_and,Bool.and_true])
 replace r0:=(h.b.cell hbl).trans r0
 replace r1:=(h.b.cell hbl).trans r1
 replace r2:=(h.b.cell hbl).trans r2
 replace r3:=(h.b.cell hbl).trans r3
 replace r4:=(h.b.cell hbl).trans r4
 replace r5:=(h.b.cell hbl).trans r5
 replace q0:=(h.b.cell hbl').trans q0
 replace q1:=(h.b.cell hbl').trans q1
 replace q2:=(h.b.cell hbl').trans q2
 have hi2:(i:Int)<(S.cs.length:Int):=by omega
 have hto3:(to':Int)<(S.ds.length:Int):=by omega
 have s3:W.cell? ⟨A.b0,3,none⟩=some (.slice (some ⟨b,o,none⟩) S.cs.length c):=by rw [← ev];exact h.sp.cell 3
 have s0:W.cell? ⟨A.b0,0,none⟩=some (.slice (some ⟨b',o',none⟩) S.ds.length c'):=by rw [← ev'];exact h.sp.cell 0
 have H:=hid h
 have HG:=hid hg
 have HX:=hid hx
 have HM:=hid (fun (j:Nat)=>show (rchM S i (l.take j) (m,[])).1.length≤768∧(rchM S i (l.take j) (m,[])).2.length≤768 from ⟨keys_len hc (rchM_ok S i _ _ hnd hok).1 (rchM_ok S i _ _ hnd hok).2,Nat.le_trans (rchM_len S i _ _ (Nat.zero_le _)) (keys_len hc (rchM_ok S i _ _ hnd hok).1 (rchM_ok S i _ _ hnd hok).2)⟩)
 have HNX:=hid (fun (j:Nat) (hj:j<l.length)=>rchM_next S i hj (m,[]))
 obtain ⟨n,hn⟩:∃ n,S.ds.length=n:=⟨_,rfl⟩
 rw [hn] at H hto2 hto3 s0 ⊢
 have HN:=hid hn
 clear ev ev' hnm hfr hto hsh hon2 hth hdn hlo hup hki h hg hx hnd hok hsp hsg p0 p1 p2 p6 p7 hn hds
 go_enter Tryz.func194,Tryz.ntmps194
 go_upto_region 2 with fail
 have hb1:Below W.heap.size W (W.alloc (.cells #[.string nm,.int .i64 frI,.int .i64 to',.int .i64 sh,.int .i64 on,.bool th] 145)):=(Below.refl _ W).alloc (Nat.le_refl _) _
 have HP1:=hid (Blk.new W 145 #[.string nm,.int .i64 frI,.int .i64 to',.int .i64 sh,.int .i64 on,.bool th])
 replace q0:=(hb1.cell (cell_size q0)).trans q0
 replace q1:=(hb1.cell (cell_size q1)).trans q1
 replace q2:=(hb1.cell (cell_size q2)).trans q2
 replace s0:=(hb1.cell (cell_size s0)).trans s0
 have HB1:=hid hb1
 obtain ⟨P,hP⟩:∃ P,W.heap.size=P:=⟨_,rfl⟩
 rw [hP] at HP1 ⊢
 generalize W.alloc (.cells #[.string nm,.int .i64 frI,.int .i64 to',.int .i64 sh,.int .i64 on,.bool th] 145)=W1 at *
 have c2:W1.cell? ⟨P,2,none⟩=some (.int .i64 to'):=HP1.out.cell 2
 clear r0 r1 r2 r3 r4 r5 s3 hb1
 go_upto_region 3 with fail
 have hb2:Below W1.heap.size W1 (W1.alloc (.cells #[.string dn,.int .i64 lo,.int .i64 up] 109)):=(Below.refl _ W1).alloc (Nat.le_refl _) _
 have HQ2:=hid (Blk.new W1 109 #[.string dn,.int .i64 lo,.int .i64 up])
 have HP2:=hid (HP1.out.below hb2)
 have HB2:=hid (below_step HB1.out hb2)
 obtain ⟨Q,hQ⟩:∃ Q,W1.heap.size=Q:=⟨_,rfl⟩
 rw [hQ] at HQ2 ⊢
 generalize W1.alloc (.cells #[.string dn,.int .i64 lo,.int .i64 up] 109)=W2 at *
 clear q0 q1 q2 s0 c2 hb2 HP1 HB1 hQ
 obtain ⟨ga,gc,eg⟩:=(ARd.of_gps HG.out).form
 rw [List.length_map] at eg
 subst eg
 have HGA:=hid (fun (W':World) (h2:Two A W W')=>ARd.of_gps (h2.owns HG.out (by decide) H.out))
 have HM2:=hid (H.out.low HB2.out)
 have HT2:=hid (Two.low (A:=A) HB2.out)
 have HR2:Hid (W2.ownsRow W.heap.size 251 2 (.slice none 0 0) (rchM S i (l.take 0) (m,[])).2.length (gpCs (rchM S i (l.take 0) (m,[])).2)):=hid (World.ownsRow_nil _ _ _ _)
 have HM3:Hid (AsM w A v1 v2 v3 v4 vk vs vc n (rchM S i (l.take 0) (m,[])).1 W2):=HM2
 clear HM2 HB2
 go_wp2
 go_loopw [6,25] (fun v x wr=>∃ j:Nat,j≤l.length∧x = .int .i64 j∧Hid (AsM w A v1 v2 v3 v4 vk vs vc n (rchM S i (l.take j) (m,[])).1 wr)∧Hid (wr.ownsRow W.heap.size 251 2 v (rchM S i (l.take j) (m,[])).2.length (gpCs (rchM S i (l.take j) (m,[])).2))∧Hid (Two A W wr)∧Hid (Blk wr P 145 #[.string nm,.int .i64 frI,.int .i64 to',.int .i64 sh,.int .i64 on,.bool th])∧Hid (Blk wr Q 109 #[.string dn,.int .i64 lo,.int .i64 up])) (fun _ x _=>l.length-(intOf x).toNat)
 case atStart=>exact ⟨0,Nat.zero_le _,rfl,HM3,HR2,HT2,HP2,HQ2⟩
 clear HM3 HR2 HT2 HP2 HQ2
 obtain ⟨j,hj,rfl,hM,hR,hT,hPB,hQB⟩:=hrel
 by_cases hjl:j<l.length
 ·have hj2:(j:Int)<(l.length:Int):=by omega
  obtain ⟨b,o,c',ev,hbl,k0,k1⟩:=(HGA.out _ hT.out).gpAt j hjl
  cases ev
  have hxx:=HX.out _ (List.getElem_mem hjl)
  have HN1:=hid (HNX.out j hjl)
  obtain ⟨x,hxe⟩:∃ x,l[j]=x:=⟨_,rfl⟩
  rw [hxe] at k0 k1 hxx HN1
  rw [HTH.out x] at HN1
  obtain ⟨⟨ml1,ml2⟩,_⟩:((rchM S i (l.take j) (m,[])).1.length≤768∧(rchM S i (l.take j) (m,[])).2.length≤768)∧True:=⟨HM.out j,trivial⟩
  obtain ⟨mm,oo,hmo⟩:∃ mm oo,rchM S i (l.take j) (m,[])=(mm,oo):=⟨_,_,rfl⟩
  rw [hmo] at hM hR HN1 ml1 ml2
  simp only at hM hR HN1 ml1 ml2
  have e5:IntKind.i64.wrap (x.2+sh)=x.2+sh:=IntWalk.i64_in _ (by omega)
  clear hxe hmo
  go_upto_region 6 with fail
  have hb4:Below wr.heap.size wr (wr.alloc (.cells #[.int .i64 x.1,.int .i64 x.2] 251)):=(Below.refl _ wr).alloc (Nat.le_refl _) _
  have HM4:=hid (hM.out.low hb4)
  have HR4:=hid (row_later hR.out hb4)
  have HT4:=hid (hT.out.trans (Two.low hb4))
  have HP4:=hid (hPB.out.below hb4)
  have HQ4:=hid (hQB.out.below hb4)
  have HX4:=hid (Blk.new wr 251 #[.int .i64 x.1,.int .i64 x.2])
  obtain ⟨R,hRR⟩:∃ R,wr.heap.size=R:=⟨_,rfl⟩
  rw [hRR] at HX4 ⊢
  generalize wr.alloc (.cells #[.int .i64 x.1,.int .i64 x.2] 251)=W4 at *
  clear hb4 hM hR hT hPB hQB k0 k1 hRR hbl
  have z1:W4.cell? ⟨R,1,none⟩=some (.int .i64 x.2):=HX4.out.cell 1
  have z3:W4.cell? ⟨P,3,none⟩=some (.int .i64 sh):=HP4.out.cell 3
  go_upto_region 7 with fail
  clear z1 z3
  have y1:W4.cell? ⟨Q,1,none⟩=some (.int .i64 lo):=HQ4.out.cell 1
  have y2:W4.cell? ⟨Q,2,none⟩=some (.int .i64 up):=HQ4.out.cell 2
  have pa0:W4.cell? ⟨A.pa,0,none⟩=some (.pointer (some ⟨A.ab,0,none⟩)):=HM4.out.pa.cell 0
  have ab0:W4.cell? ⟨A.ab,0,none⟩=some (.slice (some ⟨A.kb,0,none⟩) n n):=HM4.out.ab.cell 0
  have ab1:W4.cell? ⟨A.ab,1,none⟩=some (.map (some A.mb)):=HM4.out.ab.cell 1
  have z2:W4.cell? ⟨P,2,none⟩=some (.int .i64 to'):=HP4.out.cell 2
  obtain ⟨key,hkey⟩:∃ key,x.2+sh=key:=⟨_,rfl⟩
  rw [hkey] at HN1 ⊢
  clear e5 hkey
  have hm4:mm.length≤768:=ml1
  by_cases hko:keyOk S ((to':Int),key)=true
  ·obtain ⟨g1,g2⟩:lo≤key∧key≤up:=by have:=HKO.out key;rw [hko] at this;exact of_decide_eq_true this.symm
   obtain ⟨t,rfl⟩:=Int.eq_ofNat_of_zero_le (show 0≤key by omega)
   have ht:t<128:=by omega
   have d1:decide (lo≤(t:Int))=true:=decide_eq_true g1
   have d2:decide ((t:Int)≤up)=true:=decide_eq_true g2
   obtain ⟨q,u0,u1,hq⟩:=HM4.out.ks.at' hto2
   have hdr:=hold7 (W0:=W4) ⟨Below.refl _ W4,y1,y2,pa0,ab0,z2,u0,u1⟩ ((Below.refl _ W4).drew)
   obtain ⟨bb,hbb⟩:∃ bb,hole q t=bb:=⟨_,rfl⟩
   have HMB:=hid (show bb=decide ((((to':Nat):Int),(t:Int))∈mm) from hbb.symm.trans (hq.2 t ht))
   have HHAS:=hid (fun (w':World)=>hasS_any q hq.1 t ht bb hbb w')
   clear hbb hq g1 g2
   go_wp2_with fail
   go_region_held3 (fun w'=>Below W4.heap.size W4 w'∧w'.cell? ⟨Q,1,none⟩=some (.int .i64 lo)∧w'.cell? ⟨Q,2,none⟩=some (.int .i64 up)∧w'.cell? ⟨A.pa,0,none⟩=some (.pointer (some ⟨A.ab,0,none⟩))∧w'.cell? ⟨A.ab,0,none⟩=some (.slice (some ⟨A.kb,0,none⟩) n n)∧w'.cell? ⟨P,2,none⟩=some (.int .i64 to')∧w'.cell? ⟨A.kb,to' * 2,none⟩=some (.int .u64 q.1)∧w'.cell? ⟨A.kb,to' * 2+1,none⟩=some (.int .u64 q.2)) (first | exact hdr | assumption) (first | (go_at_call 195;(with_reducible refine (HHAS.out _).mono ?_);rintro e w2 ⟨rfl,hb2⟩;have hn:=hold7 hdr hb2;clear hb2))
   have hb6:=hn.1
   have HM6:=hid (HM4.out.low hb6)
   have HR6:=hid (row_later HR4.out hb6)
   have HT6:=hid (HT4.out.trans (Two.low hb6))
   have HP6:=hid (HP4.out.below hb6)
   have HQ6:=hid (HQ4.out.below hb6)
   have HX6:=hid (HX4.out.below hb6)
   clear hdr hb6 hn HM4 HR4 HT4 HP4 HQ4 HX4 HHAS y1 y2 pa0 ab0 ab1 z2 u0 u1
   cases bb with
   | true =>
    have hin:=of_decide_eq_true HMB.out.symm
    have HMN:=hid (show AsM w A v1 v2 v3 v4 vk vs vc n (rchM S i (l.take (j+1)) (m,[])).1 w2 from by rw [HN1.out,addM_no (.inr hin)];exact HM6.out)
    have HRN:=hid (show w2.ownsRow W.heap.size 251 2 _ (rchM S i (l.take (j+1)) (m,[])).2.length (gpCs (rchM S i (l.take (j+1)) (m,[])).2) from by rw [HN1.out,addQ_no (.inr hin)];exact HR6.out)
    clear hin
    go_wp2
    go_roundw
    case rel=>exact ⟨j+1,by omega,by go_num,HMN,HRN,HT6,HP6,HQ6⟩
    case measure=>simp [intOf];omega
   | false =>
    have hin:=of_decide_eq_false HMB.out.symm
    have HN2:=hid (show rchM S i (l.take (j+1)) (m,[])=(mm++[((to':Int),(t:Int))],oo++[((to':Int),(t:Int))]) from by rw [HN1.out,addM_yes hko hin,addQ_yes hko hin])
    have pa0:w2.cell? ⟨A.pa,0,none⟩=some (.pointer (some ⟨A.ab,0,none⟩)):=HM6.out.pa.cell 0
    have ab0:w2.cell? ⟨A.ab,0,none⟩=some (.slice (some ⟨A.kb,0,none⟩) n n):=HM6.out.ab.cell 0
    have z2:w2.cell? ⟨P,2,none⟩=some (.int .i64 to'):=HP6.out.cell 2
    have hdw:Below w2.heap.size w2 w2.drew:=(Below.refl _ w2).drew
    have hdr:w2.drew.cell? ⟨A.pa,0,none⟩=some (.pointer (some ⟨A.ab,0,none⟩))∧w2.drew.cell? ⟨A.ab,0,none⟩=some (.slice (some ⟨A.kb,0,none⟩) n n)∧w2.drew.cell? ⟨P,2,none⟩=some (.int .i64 to'):=⟨pa0,ab0,z2⟩
    have HADD:=hid (fun (w':World) (hb:Below w2.heap.size w2 w')=>addK_any w' A.kb n mm (HM6.out.ks.below hb) to' hto2 t ht)
    clear hin hko d1 d2 HMB HN1 HKO
    go_wp2_with fail
    go_region_held3 (fun w'=>w'.cell? ⟨A.pa,0,none⟩=some (.pointer (some ⟨A.ab,0,none⟩))∧w'.cell? ⟨A.ab,0,none⟩=some (.slice (some ⟨A.kb,0,none⟩) n n)∧w'.cell? ⟨P,2,none⟩=some (.int .i64 to')) (first | exact hdr | assumption) (first | (go_at_call 153;(with_reducible refine (HADD.out _ hdw).mono ?_);rintro e w3 ⟨rfl,hk3,hg3,hs3⟩;have HM7:=hid ((HM6.out.low hdw).key hk3 hg3);have HT7:=hid ((HT6.out.trans (Two.low hdw)).trans (Two.kb hg3));have HP7:=hid ((Two.kb hg3).blk (HP6.out.below hdw) (by decide) (HM6.out.low hdw));have hn:w3.cell? ⟨A.pa,0,none⟩=some (.pointer (some ⟨A.ab,0,none⟩))∧w3.cell? ⟨A.ab,0,none⟩=some (.slice (some ⟨A.kb,0,none⟩) n n)∧w3.cell? ⟨P,2,none⟩=some (.int .i64 to'):=⟨HM7.out.pa.cell 0,HM7.out.ab.cell 0,HP7.out.cell 2⟩))
    have HQ7:=hid ((Two.kb hg3).blk (HQ6.out.below hdw) (by decide) (HM6.out.low hdw))
    have HX7:=hid ((Two.kb hg3).blk (HX6.out.below hdw) (by decide) (HM6.out.low hdw))
    have HR7:=hid ((Two.kb hg3).owns (row_later HR6.out hdw) (by decide) (HM6.out.low hdw))
    clear hdr hdw hn hk3 hg3 hs3 HM6 HR6 HT6 HP6 HQ6 HX6 HADD pa0 ab0 z2
    have pa0:w3.cell? ⟨A.pa,0,none⟩=some (.pointer (some ⟨A.ab,0,none⟩)):=HM7.out.pa.cell 0
    have ab1:w3.cell? ⟨A.ab,1,none⟩=some (.map (some A.mb)):=HM7.out.ab.cell 1
    have z2:w3.cell? ⟨P,2,none⟩=some (.int .i64 to'):=HP7.out.cell 2
    have x0:w3.cell? ⟨R,0,none⟩=some (.int .i64 x.1):=HX7.out.cell 0
    have x1:w3.cell? ⟨R,1,none⟩=some (.int .i64 x.2):=HX7.out.cell 1
    obtain ⟨es,hes⟩:=HM7.out.mp
    have hdw:Below w3.heap.size w3 w3.drew:=(Below.refl _ w3).drew
    obtain ⟨w4,hu4,hm4,hg4,hs4⟩:=(hes.below hdw).update gp_keys Tryz.underlying236 ((to':Int),(t:Int)) (.agg #[.int .i64 i,.int .i64 x.1,.int .i64 x.2])
    have hup:(Instr.mapUpdate 236 (.map (some A.mb)) (.agg #[.int .i64 to',.int .i64 t]) (.agg #[.int .i64 i,.int .i64 x.1,.int .i64 x.2])).run Tryz.prog w3.drew = .ok () w4:=hu4
    have HM8:=hid ((HM7.out.low hdw).upd (hes.below hdw) hm4 hg4)
    have HT8:=hid ((HT7.out.trans (Two.low hdw)).trans (Two.mb hg4))
    have HP8:=hid ((Two.mb hg4).blk (HP7.out.below hdw) (by decide) (HM7.out.low hdw))
    have HQ8:=hid ((Two.mb hg4).blk (HQ7.out.below hdw) (by decide) (HM7.out.low hdw))
    have HR8:=hid ((Two.mb hg4).owns (row_later HR7.out hdw) (by decide) (HM7.out.low hdw))
    clear hes hdw hu4 hm4 hg4 hs4 HM7 HT7 HP7 HQ7 HR7 HX7
    go_wp2_with fail
    go_region
    clear pa0 ab1 z2 x0 x1 hup
    have z2:w4.cell? ⟨P,2,none⟩=some (.int .i64 to'):=HP8.out.cell 2
    have hsz:=HT8.out.1
    have ml3:oo.length≤768:=ml2
    go_wp2_with (at_builtin;refine wpList_append_lies _ rfl _ _ 254 rfl W.heap.size 251 i0 _ 2 16 Tryz.underlying254 hi0 hz0 hz1 hz2 rfl (by omega) _ _ _ rfl (HR8.out.alloc _) ⟨w4.heap.size,0,none⟩ 1 1 [.int .i64 to',.int .i64 t] rfl rfl (World.news_of_block (cs:=#[.int .i64 to',.int .i64 t]) (t:=251) (fr:=(0,0)) (heap_alloc_new w4 _)) (by simp [Value.oneCell']) (by omega) (by unfold maxLen;omega) (by omega) (by simp;omega) (w4.heap.size+1) (by simp) ?_;intro gg cap w5 hown5 hgrow hat5 hlt5)
    have HMN:=hid (show AsM w A v1 v2 v3 v4 vk vs vc n (rchM S i (l.take (j+1)) (m,[])).1 w5 from by rw [HN2.out];exact HM8.out.row HR8.out (by decide) (by decide) (by decide) (by decide) (by decide) H.out.b.size hgrow)
    have HRN:=hid (show w5.ownsRow W.heap.size 251 2 (.slice (some ⟨gg,0,none⟩) (oo.length+1) cap) (rchM S i (l.take (j+1)) (m,[])).2.length (gpCs (rchM S i (l.take (j+1)) (m,[])).2) from by rw [HN2.out,gpCs_snoc,List.length_append];exact hown5)
    have HTN:=hid (HT8.out.row HR8.out hgrow)
    have HPN:=hid (HP8.out.rowed HR8.out (by decide) hgrow)
    have HQN:=hid (HQ8.out.rowed HR8.out (by decide) hgrow)
    clear hown5 hgrow hat5 hlt5 HM8 HT8 HP8 HQ8 HR8 z2
    go_wp2
    go_roundw
    case rel=>exact ⟨j+1,by omega,by go_num,HMN,HRN,HTN,HPN,HQN⟩
    case measure=>simp [intOf];omega
  ·have hno:keyOk S ((to':Int),key)=false:=by simpa using hko
   have HM6:=hid (fun (W6:World) (hb:Below W4.heap.size W4 W6)=>show AsM w A v1 v2 v3 v4 vk vs vc n (rchM S i (l.take (j+1)) (m,[])).1 W6 from by rw [HN1.out,addM_no (.inl hno)];exact HM4.out.low hb)
   have HR6:=hid (fun (W6:World) (hb:Below W4.heap.size W4 W6)=>show W6.ownsRow W.heap.size 251 2 _ (rchM S i (l.take (j+1)) (m,[])).2.length (gpCs (rchM S i (l.take (j+1)) (m,[])).2) from by rw [HN1.out,addQ_no (.inl hno)];exact row_later HR4.out hb)
   rcases (show key<lo∨(lo≤key∧up<key) from by have:=HKO.out key;rw [hno] at this;have:=of_decide_eq_false this.symm;omega) with c1 | ⟨c1,c2⟩
   ·have d1:decide (lo≤key)=false:=decide_eq_false (by omega)
    clear c1 hko hno
    go_wp2_with fail
    go_quiet (fail)
    have hbq:=below_drewN (Below.refl W4.heap.size W4) nq
    have HM7:=hid (HM6.out _ hbq)
    have HR7:=hid (HR6.out _ hbq)
    have HT7:=hid (HT4.out.trans (Two.low hbq))
    have HP7:=hid (HP4.out.below hbq)
    have HQ7:=hid (HQ4.out.below hbq)
    clear hbq
    go_wp2
    go_roundw
    case rel=>exact ⟨j+1,by omega,by go_num,HM7,HR7,HT7,HP7,HQ7⟩
    case measure=>simp [intOf];omega
   ·have d1:decide (lo≤key)=true:=decide_eq_true c1
    have d2:decide (key≤up)=false:=decide_eq_false (by omega)
    clear c1 c2 hko hno
    go_wp2_with fail
    go_quiet (fail)
    have hbq:=below_drewN (Below.refl W4.heap.size W4) nq
    have HM7:=hid (HM6.out _ hbq)
    have HR7:=hid (HR6.out _ hbq)
    have HT7:=hid (HT4.out.trans (Two.low hbq))
    have HP7:=hid (HP4.out.below hbq)
    have HQ7:=hid (HQ4.out.below hbq)
    clear hbq
    go_wp2
    go_roundw
    case rel=>exact ⟨j+1,by omega,by go_num,HM7,HR7,HT7,HP7,HQ7⟩
    case measure=>simp [intOf];omega
 ·have hj2:¬ (j:Int)<(l.length:Int):=by omega
  have hje:l.take j=l:=List.take_of_length_le (by omega)
  rw [hje] at hM hR
  clear hje
  go_wp2
  go_ret
  exact ⟨_,rfl,hM.out,hR.out,hT.out⟩
end Go.Proofs.YteflhbfgpknabaaGreatDoor
