/-
  A part of the proof: AH9.
-/
import Derived.Test.YteflhbfgpknabaaGreatDoorL16
set_option maxRecDepth 100000
set_option maxHeartbeats 12800000
namespace Go.Proofs.YteflhbfgpknabaaGreatDoor
open Go.Lib (hid)
open Go.RowKit
def CnR (S:Sp) (f:Th→Int) (w:World) (e:Ending) (w':World):Prop:=∃ LB rb G,e = .returned (.slice (some ⟨LB,0,none⟩) S.ds.length S.ds.length)∧GrI w.heap.size S.ds.length S.ds.length LB rb G w'∧(∀ q,G q≠none↔Acts S f q)∧Below w.heap.size w w'
theorem CvI.cells2 {w:World} {v1 v2 v3 v4 vk vs vc:Value} {n LB:Nat} {rb:Nat→Nat} {P:Nat} {x0 x1 x2 x3 x4 x5:Value} {G:Gr} {W:World} (h:CvI w v1 v2 v3 v4 vk vs vc n LB rb P #[x0,x1,x2,x3,x4,x5] G W) {b o:Nat} {g:Value} (hb:b<w.heap.size) (g0:w.cell? ⟨b,o,none⟩=some g) :
  W.cell? ⟨w.heap.size,0,none⟩=some v1∧W.cell? ⟨w.heap.size,1,none⟩=some v2∧W.cell? ⟨w.heap.size,2,none⟩=some v3∧W.cell? ⟨w.heap.size,3,none⟩=some v4∧W.cell? ⟨P,1,none⟩=some x1∧W.cell? ⟨P,2,none⟩=some x2∧W.cell? ⟨P,3,none⟩=some x3∧W.cell? ⟨w.heap.size+1,2,none⟩=some vc∧W.cell? ⟨b,o,none⟩=some g :=
 ⟨h.cn.sp.cell 0,h.cn.sp.cell 1,h.cn.sp.cell 2,h.cn.sp.cell 3,h.cp.cell 1,h.cp.cell 2,h.cp.cell 3,h.cn.hd.cell 2,(h.cn.b.cell hb).trans g0⟩
def LsR (k:Nat) (w:World) (e:Ending) (w':World):Prop:=∃ u,e = .returned u∧LsI w' u k∧Below w.heap.size w w'
theorem with_ls (v:Value) (m:Nat) (n:Int) (w:World) (h:LsI w v m) (hm:m≤100000):Calls Tryz.prog 159 #[v,.int .i64 n] w (LsR (m+1) w):=by
 obtain ⟨⟨l,hl,hr⟩,_⟩:=h
 refine (with_any l v n w hr (by omega)).mono ?_
 rintro e w' ⟨u,rfl,hu,hb⟩
 exact ⟨u,rfl,by have:=LsI.of_own hu;rwa [List.length_append,List.length_singleton,hl] at this,hb⟩
theorem CwI.rowQ {w:World} {v1 v2 v3 v4 vk vs vc:Value} {n LB:Nat} {rb:Nat→Nat} {P Q:Nat} {x1 x2 v:Value} {ys:Array Value} {m:Nat} {G G':Gr} {W W':World} (h:CwI w v1 v2 v3 v4 vk vs vc n LB rb P x1 x2 v m G W) (hq:Blk W Q 145 ys) {d:Nat} (hd:d<n) (hg:W.grownBy W' (some (rb d))) (h2:GrI w.heap.size n n LB rb G' W'):CwI w v1 v2 v3 v4 vk vs vc n LB rb P x1 x2 v m G' W'∧Blk W' Q 145 ys:=by
 obtain ⟨ks,k1,_⟩:=h.cn.g.row d hd
 exact ⟨h.row hd hg h2,hq.grown hg (fun e=>(hq.ne k1 (by decide)) (Option.some.inj e).symm)⟩
theorem chains_any (v1 v2 v3 v4:Value) (S:Sp) (ok:SpOk S) (hc:(checkP S).2=0) (fp:Nat→Value) (vk vs vc:Value) (f:Th→Int) (hf:OnOk S f) (w:World) (hsp:SpRd w v1 v2 v3 v4 fp S) (hh:HdRd w vk vs vc S f) :
  Calls Tryz.prog 121 #[.agg #[v1,v2,v3,v4],.agg #[vk,vs,vc]] w (CnR S f w):=by
 obtain ⟨l1,_,l3,l4⟩:=sp_lens hc
 obtain ⟨⟨a1,c1,rfl⟩,_,⟨a3,c3,rfl⟩,⟨a4,c4,rfl⟩⟩:=hsp.forms
 obtain ⟨⟨ak,ck,rfl⟩,⟨as',cs',rfl⟩,⟨ac,cc,rfl⟩⟩:=hh.forms
 have hmk:=make_chains S.ds.length (by omega)
 have hmr:=make_chain
 have HSP:=hid hsp
 have HOK:=hid ok
 have HF:=hid hf
 have HH:=hid hh
 have HC:=hid hc
 have b0:=((Blk.new w 27 #[.slice a1 S.ds.length c1,v2,.slice a3 S.ss.length c3,.slice a4 S.cs.length c4]).alloc (.cells #[.slice ak S.ds.length ck,.slice as' (onL f 2 S.ss.length).length cs',.slice ac (onL f 3 S.cs.length).length cc] 32)).alloc (.cells (madeCells #[.slice none 0 0] (S.ds.length * 1)) 213)
 have b1:=(Blk.new (w.alloc (.cells #[.slice a1 S.ds.length c1,v2,.slice a3 S.ss.length c3,.slice a4 S.cs.length c4] 27)) 32 #[.slice ak S.ds.length ck,.slice as' (onL f 2 S.ss.length).length cs',.slice ac (onL f 3 S.cs.length).length cc]).alloc (.cells (madeCells #[.slice none 0 0] (S.ds.length * 1)) 213)
 have b2:=Blk.new ((w.alloc (.cells #[.slice a1 S.ds.length c1,v2,.slice a3 S.ss.length c3,.slice a4 S.cs.length c4] 27)).alloc (.cells #[.slice ak S.ds.length ck,.slice as' (onL f 2 S.ss.length).length cs',.slice ac (onL f 3 S.cs.length).length cc] 32)) 213 (madeCells #[.slice none 0 0] (S.ds.length * 1))
 rw [World.size_alloc] at b1
 rw [World.size_alloc,World.size_alloc] at b2
 have hb:=(below_two w (.cells #[.slice a1 S.ds.length c1,v2,.slice a3 S.ss.length c3,.slice a4 S.cs.length c4] 27) (.cells #[.slice ak S.ds.length ck,.slice as' (onL f 2 S.ss.length).length cs',.slice ac (onL f 3 S.cs.length).length cc] 32)).alloc (by simp;omega) (.cells (madeCells #[.slice none 0 0] (S.ds.length * 1)) 213)
 have HI0:=hid (show CnI w (.slice a1 S.ds.length c1) v2 (.slice a3 S.ss.length c3) (.slice a4 S.cs.length c4) (.slice ak S.ds.length ck) (.slice as' (onL f 2 S.ss.length).length cs') (.slice ac (onL f 3 S.cs.length).length cc) S.ds.length 0 (w.heap.size+1+1) (fun _=>0) (kG f 0 0) _ from ⟨hb,b0,b1,GrI.start b2 (by rw [size_madeCells,Nat.mul_one]) (by omega)⟩)
 rw [Nat.mul_one] at HI0
 obtain ⟨n,hn⟩:∃ n,S.ds.length=n:=⟨_,rfl⟩
 obtain ⟨nk,hnk⟩:∃ nk,(onL f 3 S.cs.length).length=nk:=⟨_,rfl⟩
 obtain ⟨ns,hns⟩:∃ ns,(onL f 2 S.ss.length).length=ns:=⟨_,rfl⟩
 have HN:=hid hn
 rw [hn] at hmk l1 HI0
 rw [hnk,hns] at HI0
 have hnk24:nk≤24:=by have:=len_onL f 3 S.cs.length;omega
 have HNK:=hid hnk
 rw [hn,hnk,hns]
 clear hsp ok hf hh hc b0 b1 b2 hb hn hnk hns
 go_enter Tryz.func121,Tryz.ntmps121
 go_upto_region 2 with fail
 generalize ((w.alloc (.cells #[.slice a1 n c1,v2,.slice a3 S.ss.length c3,.slice a4 S.cs.length c4] 27)).alloc (.cells #[.slice ak n ck,.slice as' ns cs',.slice ac nk cc] 32)).alloc (.cells (madeCells #[.slice none 0 0] n) 213)=W at *
 clear hmk
 go_wp2
 go_loopw [6] (fun x wr=>∃ (i:Nat) (rb:Nat→Nat),i≤n∧x = .int .i64 i∧Hid (CnI w (.slice a1 n c1) v2 (.slice a3 S.ss.length c3) (.slice a4 S.cs.length c4) (.slice ak n ck) (.slice as' ns cs') (.slice ac nk cc) n i (w.heap.size+1+1) rb (kG f i 0) wr)) (fun x _=>n-(intOf x).toNat)
 case atStart=>exact ⟨0,_,Nat.zero_le _,rfl,HI0⟩
 clear HI0
 obtain ⟨i,rb,hi,rfl,hI⟩:=hrel
 by_cases hin:i<n
 ·have hi2:(i:Int)<(n:Int):=by omega
  obtain ⟨cs,cb,csz,_⟩:=hI.out.g.blk
  have y0:(wr.alloc (.cells ch0 212)).cell? ⟨w.heap.size+1+1,i,none⟩=some cs[i]:=((cb.alloc _).cell i).trans (Array.getElem?_eq_getElem (by omega))
  have y1:(wr.alloc (.cells ch0 212)).frozen? ⟨w.heap.size+1+1,i,none⟩=false:=(cb.alloc _).frozen i
  obtain ⟨yv,hyv⟩:∃ yv,cs[i]=yv:=⟨_,rfl⟩
  rw [hyv] at y0
  have HNX:=hid (hI.out.next hin (fun k=>kG_row f i k))
  clear hyv cb hI
  go_wp2
  generalize (wr.alloc (.cells ch0 212)).setCell ⟨w.heap.size+1+1,i,none⟩ (.slice (some ⟨wr.heap.size,0,none⟩) 128 128)=W2 at *
  generalize (fun e=>if e=i then wr.heap.size else rb e)=rb2 at *
  clear y0 y1
  go_loopw [7] (fun x wr=>∃ j:Nat,j≤(playedL f i).length∧x = .int .i64 j∧Hid (CnI w (.slice a1 n c1) v2 (.slice a3 S.ss.length c3) (.slice a4 S.cs.length c4) (.slice ak n ck) (.slice as' ns cs') (.slice ac nk cc) n (i+1) (w.heap.size+1+1) rb2 (kG f i j) wr)) (fun x _=>(playedL f i).length-(intOf x).toNat)
  case atStart=>exact ⟨0,Nat.zero_le _,rfl,HNX⟩
  clear HNX
  obtain ⟨j,hj,rfl,hI⟩:=hrel
  have h0:wr.cell? ⟨w.heap.size+1,0,none⟩=some (.slice ak n ck):=hI.out.hd.cell 0
  obtain ⟨b',o',c',g,ev,g0,hg⟩:=(HH.out.later hI.out.b).keyAt (d:=i) (by rw [HN.out];exact hin)
  rw [HN.out] at ev
  cases ev
  obtain ⟨av,cv,rfl⟩:=hg.intForm
  have hlp:=len_playedL f i
  by_cases hjl:j<(playedL f i).length
  ·as_aux_lemma =>
   have hj2:(j:Int)<((playedL f i).length:Int):=by omega
   obtain ⟨b2,o2,c',ev,_,q0⟩:=hg.intAt j hjl
   cases ev
   have hm:=mem_playedL.1 (List.getElem_mem hjl)
   obtain ⟨x,hx⟩:∃ x,(playedL f i)[j]=x:=⟨_,rfl⟩
   rw [hx] at q0 hm
   obtain ⟨hx0,hx1,_⟩:=hm
   obtain ⟨k,rfl⟩:=Int.eq_ofNat_of_zero_le hx0
   have hk:k<128:=by omega
   have r0:=hI.out.g.rowCell (d:=i) (by omega)
   obtain ⟨ya,yb,yw,t0,t1,t2,t3,_,tf⟩:=hI.out.g.at' (d:=i) (by omega) hk
   have u0:=tf (k * 4)
   have u1:=tf (k * 4+1)
   have u2:=tf (k * 4+2)
   have u3:=tf (k * 4+3)
   have HPUT:=hid (hI.out.row (d:=i) (by omega) (put4_grown wr (rb2 i) k (.bool true) (.int .i64 k) (.int .i64 i) (.slice none 0 0)) (hI.out.g.put (d:=i) (by omega) hk (a:=k) (b:=i) (LsI.nil wr)))
   have hkg:=kG_put (f:=f) (i:=i) hjl
   rw [hx] at hkg
   rw [← hkg] at HPUT
   have HPD:=hid (HPUT.out.low ((Below.refl _ _).drew))
   unfold put4 at HPUT HPD
   clear tf hx hg hI hx0 hkg
   go_wp2_with fail
   go_region
   all_goals go_wp2
   all_goals go_roundw
   all_goals first | exact ⟨j+1,by omega,by go_num,HPUT⟩ | exact ⟨j+1,by omega,by go_num,HPD⟩ | (simp [intOf];omega)
  ·have hj2:¬ (j:Int)<((playedL f i).length:Int):=by omega
   have hje:j=(playedL f i).length:=by omega
   have HI1:Hid (CnI w (.slice a1 n c1) v2 (.slice a3 S.ss.length c3) (.slice a4 S.cs.length c4) (.slice (some ⟨b',o',none⟩) n ck) (.slice as' ns cs') (.slice ac nk cc) n (i+1) (w.heap.size+1+1) rb2 (kG f (i+1) 0) wr):=by rw [← kG_next,← hje];exact hI
   clear hI hje hg
   go_wp2
   go_roundw
   case rel=>exact ⟨i+1,_,by omega,by go_num,HI1⟩
   case measure=>simp [intOf];omega
 ·have hi2:¬ (i:Int)<(n:Int):=by omega
  have hie:n=i:=by omega
  subst hie
  have HB1:=hid (show CbI S f 0 (kG f n 0) by have:=CbI.start HF.out;rwa [HN.out] at this)
  go_wp2
  go_loopw [8] (fun x wr=>∃ (c:Nat) (G:Gr),c≤nk∧x = .int .i64 c∧Hid (CnI w (.slice a1 n c1) v2 (.slice a3 S.ss.length c3) (.slice a4 S.cs.length c4) (.slice ak n ck) (.slice as' ns cs') (.slice ac nk cc) n n (w.heap.size+1+1) rb G wr)∧Hid (CbI S f c G)) (fun x _=>nk-(intOf x).toNat)
  case atStart=>exact ⟨0,_,Nat.zero_le _,rfl,hI,HB1⟩
  clear hI HB1 hi hi2 hin
  obtain ⟨c,G,hcn,rfl,hI,hB⟩:=hrel
  have h2:wr.cell? ⟨w.heap.size+1,2,none⟩=some (.slice ac nk cc):=hI.out.hd.cell 2
  have s3:wr.cell? ⟨w.heap.size,3,none⟩=some (.slice a4 S.cs.length c4):=hI.out.sp.cell 3
  by_cases hck:c<nk
  ·as_aux_lemma =>
   have hc2:(c:Int)<(nk:Int):=by omega
   have hcl:c<(onL f 3 S.cs.length).length:=by rw [HNK.out];exact hck
   obtain ⟨bc,oc,c',ev,hbc,q00⟩:=HH.out.cous.intAt c hcl
   rw [HNK.out] at ev
   cases ev
   have hm:=mem_onL.1 (List.getElem_mem hcl)
   obtain ⟨x,hx⟩:∃ x,(onL f 3 S.cs.length)[c]=x:=⟨_,rfl⟩
   rw [hx] at q00 hm
   obtain ⟨hx0,hx1,hon⟩:=hm
   obtain ⟨i,rfl⟩:=Int.eq_ofNat_of_zero_le hx0
   have hi:i<S.cs.length:=by omega
   have q0:=(hI.out.b.cell hbc).trans q00
   obtain ⟨b,o,c',ev,_,r0,r1,r2,r3,r4,r5⟩:=(HSP.out.later hI.out.b).cAt i hi
   cases ev
   obtain ⟨p0,p1,p2,p3,p4,p5,p6,p7,_⟩:=cp_good HC.out (List.getElem_mem hi)
   have HEND:=hid (fun (G:Gr) (h:CbK S f c i (playedL f S.cs[i].frm).length G)=>CbK.end hi h hcl hx)
   have HSK:=hid (fun (G:Gr) (k:Nat) (h:CbK S f c i k G)=>h.skip hi)
   have HAD:=hid (fun (G:Gr) (k:Nat) (h:CbK S f c i k G)=>h.add HC.out hi hon)
   have HTK:=hid (show CbK S f c i 0 G from hB.out.take)
   obtain ⟨nm,hnm⟩:∃ x,S.cs[i].name=x:=⟨_,rfl⟩
   obtain ⟨frI,hfr⟩:∃ x,S.cs[i].frm=x:=⟨_,rfl⟩
   obtain ⟨toI,hto⟩:∃ x,S.cs[i].to=x:=⟨_,rfl⟩
   obtain ⟨sh,hsh⟩:∃ x,S.cs[i].shift=x:=⟨_,rfl⟩
   obtain ⟨on,hon2⟩:∃ x,S.cs[i].only=x:=⟨_,rfl⟩
   obtain ⟨th,hth⟩:∃ x,S.cs[i].thr=x:=⟨_,rfl⟩
   rw [hnm] at r0
   rw [hfr] at r1 p0 p1 HEND HSK HAD
   rw [hto] at r2 p2 p3 HAD
   rw [hsh] at r3 p4 p5 HAD
   rw [hon2] at r4 HSK HAD
   rw [hth] at r5
   obtain ⟨fr,rfl⟩:=Int.eq_ofNat_of_zero_le p0
   obtain ⟨to',rfl⟩:=Int.eq_ofNat_of_zero_le p2
   rw [HN.out] at p1 p3
   have hfr2:fr<n:=by omega
   have hto2:to'<n:=by omega
   have y0:=cell_alloc h2
   have y1:=cell_alloc q0
   have y2:=cell_alloc s3
   have y3:=cell_alloc r0
   have y4:=cell_alloc r1
   have y5:=cell_alloc r2
   have y6:=cell_alloc r3
   have y7:=cell_alloc r4
   have y8:=cell_alloc r5
   obtain ⟨bk,okk,c',g,ev,hbk,g0,hg⟩:=HH.out.keyLow (d:=fr) (by rw [HN.out];exact hfr2)
   rw [HN.out] at ev
   cases ev
   obtain ⟨av,cv,rfl⟩:=hg.intForm
   have HG:=hid hg
   clear hx hfr hto hsh hon2 hth hnm p0 p2 hx0 hx1 hg
   go_wp2_with fail
   go_region
   have HV:=hid (show CvI w (.slice a1 n c1) v2 (.slice a3 S.ss.length c3) (.slice (some ⟨b,o,none⟩) S.cs.length c4) (.slice (some ⟨bk,okk,none⟩) n ck) (.slice as' ns cs') (.slice (some ⟨bc,oc,none⟩) nk cc) n (w.heap.size+1+1) rb wr.heap.size #[.string nm,.int .i64 fr,.int .i64 to',.int .i64 sh,.int .i64 on,.bool th] G ((wr.alloc (.cells #[.string nm,.int .i64 fr,.int .i64 to',.int .i64 sh,.int .i64 on,.bool th] 145)).drew) from ⟨hI.out.low (((Below.refl _ wr).alloc (Nat.le_refl _) _).drew),(Blk.new wr 145 _).below ((Below.refl _ _).drew)⟩)
   obtain ⟨P,hP⟩:∃ P,wr.heap.size=P:=⟨_,rfl⟩
   rw [hP] at HV ⊢
   generalize (wr.alloc (.cells #[.string nm,.int .i64 fr,.int .i64 to',.int .i64 sh,.int .i64 on,.bool th] 145)).drew=W3 at *
   clear hP y0 y1 y2 y3 y4 y5 y6 y7 y8 q0 r0 r1 r2 r3 r4 r5 h2 s3 hI hB
   go_wp2
   go_loopw [10] (fun x wr=>∃ (k:Nat) (G:Gr),k≤(playedL f fr).length∧x = .int .i64 k∧Hid (CvI w (.slice a1 n c1) v2 (.slice a3 S.ss.length c3) (.slice (some ⟨b,o,none⟩) S.cs.length c4) (.slice (some ⟨bk,okk,none⟩) n ck) (.slice as' ns cs') (.slice (some ⟨bc,oc,none⟩) nk cc) n (w.heap.size+1+1) rb P #[.string nm,.int .i64 fr,.int .i64 to',.int .i64 sh,.int .i64 on,.bool th] G wr)∧Hid (CbK S f c i k G)) (fun x _=>(playedL f fr).length-(intOf x).toNat)
   case atStart=>exact ⟨0,_,Nat.zero_le _,rfl,HV,HTK⟩
   clear HV HTK
   obtain ⟨k,G,hk,rfl,hI,hB⟩:=hrel
   obtain ⟨_,z0,z1,z2,z3,z4,z5,h0,k0⟩:=hI.out.cells hbk g0
   by_cases hkl:k<(playedL f fr).length
   ·as_aux_lemma =>
    have hk2:(k:Int)<((playedL f fr).length:Int):=by omega
    obtain ⟨br,orr,c',ev,hbr,rk⟩:=HG.out.intAt k hkl
    cases ev
    have HAK:=hid (HAD.out G k hB.out hkl)
    have HSK2:=hid (HSK.out G k hB.out)
    have HGB:=hid (show ∀ q j,G q=some j→j≤100000 from fun q j e=>Nat.le_trans (hB.out.r.g.le q j e) (by decide))
    obtain ⟨x,hx⟩:∃ x,(playedL f fr)[k]=x:=⟨_,rfl⟩
    have hxm:=mem_playedL.1 (List.getElem_mem hkl)
    rw [hx] at rk HAK hxm
    have hx0:=hxm.1
    have hx1:=hxm.2.1
    have hlp:=len_playedL f fr
    obtain ⟨bb,hbb⟩:∃ bb,firstB on (playedL f fr).length k=bb:=⟨_,rfl⟩
    have HFC:=hid (fun (w':World)=>(show Calls Tryz.prog 157 #[.agg #[.string nm,.int .i64 fr,.int .i64 to',.int .i64 sh,.int .i64 on,.bool th],.slice (some ⟨br,orr,none⟩) (playedL f fr).length cv,.int .i64 k] w' (BoolR bb w') by rw [← hbb];exact first_any nm fr to' sh on th _ _ cv k (by omega) w'))
    rw [hbb] at HAK HSK2
    have e1:IntKind.i64.wrap (x+sh)=x+sh:=IntWalk.i64_in _ (by omega)
    have hdr:=(hI.out.low ((Below.refl _ _).drew)).cells hbk g0
    clear hx hxm hbb hB
    go_wp2_with fail
    go_region_held3 (fun w'=>CvI w (.slice a1 n c1) v2 (.slice a3 S.ss.length c3) (.slice (some ⟨b,o,none⟩) S.cs.length c4) (.slice (some ⟨bk,okk,none⟩) n ck) (.slice as' ns cs') (.slice (some ⟨bc,oc,none⟩) nk cc) n (w.heap.size+1+1) rb P #[.string nm,.int .i64 fr,.int .i64 to',.int .i64 sh,.int .i64 on,.bool th] G w'∧w'.cell? ⟨P,0,none⟩=some (.string nm)∧w'.cell? ⟨P,1,none⟩=some (.int .i64 fr)∧w'.cell? ⟨P,2,none⟩=some (.int .i64 to')∧w'.cell? ⟨P,3,none⟩=some (.int .i64 sh)∧w'.cell? ⟨P,4,none⟩=some (.int .i64 on)∧w'.cell? ⟨P,5,none⟩=some (.bool th)∧w'.cell? ⟨w.heap.size+1,0,none⟩=some (.slice (some ⟨bk,okk,none⟩) n ck)∧w'.cell? ⟨bk,okk+fr,none⟩=some (.slice (some ⟨br,orr,none⟩) (playedL f fr).length cv)) (first | exact hdr | assumption) (first | (go_at_call 157;(with_reducible refine (HFC.out _).mono ?_);rintro e w2 ⟨rfl,hb2⟩;have hn:=(CvI.low (And.left (by first | assumption | exact hdr)) hb2).cells hbk g0;clear hb2))
    have HI2:=hid hn.1
    clear hI z0 z1 z2 z3 z4 z5 h0 k0 hdr hn HFC
    cases bb with
    | false =>
     have HN2:=hid (HSK2.out rfl)
     go_wp2
     go_roundw
     case rel=>exact ⟨k+1,_,by omega,by go_num,HI2,HN2⟩
     case measure=>simp [intOf];omega
    | true =>
     have HN2:=hid (HAK.out rfl)
     obtain ⟨_,_,z1,_,_,_,_,h0,k0⟩:=HI2.out.cells hbk g0
     have rk2:=(HI2.out.cn.b.cell hbr).trans rk
     have HAC:=hid (fun (W4:World) (hb:Below w2.heap.size w2 W4) (hl:LsI W4 (.slice (some ⟨w2.heap.size,0,none⟩) 1 1) 1)=>(show Calls Tryz.prog 158 #[.agg #[.slice a1 n c1,v2,.slice a3 S.ss.length c3,.slice (some ⟨b,o,none⟩) S.cs.length c4],.slice (some ⟨w.heap.size+1+1,0,none⟩) n n,.int .i64 to',.int .i64 (x+sh),.agg #[.bool true,.int .i64 x,.int .i64 fr,.slice (some ⟨w2.heap.size,0,none⟩) 1 1]] W4 (AdR w.heap.size n (w.heap.size+1+1) rb (addG S G ((to':Int),x+sh) 1) to' W4) by
      have ha:=add_any (.slice a1 S.ds.length c1) v2 (.slice a3 S.ss.length c3) (.slice (some ⟨b,o,none⟩) S.cs.length c4) S HC.out fp w.heap.size (w.heap.size+1+1) rb G to' (by rw [HN.out];exact hto2) (x+sh) x fr _ 1 W4 (HSP.out.later (HI2.out.low hb).cn.b) (by rw [HN.out];exact (HI2.out.low hb).cn.g) hl HGB.out
      rw [HN.out] at ha
      exact ha))
     have hba:Below w2.heap.size w2 (w2.alloc (.cells #[.int .i64 i] 3)).drew:=((Below.refl _ w2).alloc (Nat.le_refl _) _).drew
     have hbb:Below w2.heap.size w2 (w2.drew.alloc (.cells #[.int .i64 i] 3)):=((Below.refl _ w2).drew).alloc (Nat.le_refl _) _
     have HA1:=hid (HAC.out _ hba ((LsI.one w2 i).low ((Below.refl _ _).drew)))
     have HA2:=hid (HAC.out _ hbb (LsI.one w2.drew i))
     have hd1:=(HI2.out.low ((Below.refl _ _).drew)).cells2 hbc q00
     have hd2:=(HI2.out.low hba).cells2 hbc q00
     have hd3:=(HI2.out.low hbb).cells2 hbc q00
     have hd4:=(HI2.out.low ((Below.refl _ w2).alloc (Nat.le_refl _) (.cells #[.int .i64 i] 3))).cells2 hbc q00
     clear HAC HSK2
     go_wp2_with fail
     go_region_held3 (fun w'=>w'.cell? ⟨w.heap.size,0,none⟩=some (.slice a1 n c1)∧w'.cell? ⟨w.heap.size,1,none⟩=some v2∧w'.cell? ⟨w.heap.size,2,none⟩=some (.slice a3 S.ss.length c3)∧w'.cell? ⟨w.heap.size,3,none⟩=some (.slice (some ⟨b,o,none⟩) S.cs.length c4)∧w'.cell? ⟨P,1,none⟩=some (.int .i64 fr)∧w'.cell? ⟨P,2,none⟩=some (.int .i64 to')∧w'.cell? ⟨P,3,none⟩=some (.int .i64 sh)∧w'.cell? ⟨w.heap.size+1,2,none⟩=some (.slice (some ⟨bc,oc,none⟩) nk cc)∧w'.cell? ⟨bc,oc+c,none⟩=some (.int .i64 i)) (first | exact hd1 | exact hd2 | exact hd3 | exact hd4 | assumption) (first | (go_at_call 158;(first | (with_reducible refine HA1.out.mono ?_) | (with_reducible refine HA2.out.mono ?_));rintro e w5 ⟨⟨u,rfl⟩,hg5,hgr5⟩;have HI5:=hid (show CvI w (.slice a1 n c1) v2 (.slice a3 S.ss.length c3) (.slice (some ⟨b,o,none⟩) S.cs.length c4) (.slice (some ⟨bk,okk,none⟩) n ck) (.slice as' ns cs') (.slice (some ⟨bc,oc,none⟩) nk cc) n (w.heap.size+1+1) rb P #[.string nm,.int .i64 fr,.int .i64 to',.int .i64 sh,.int .i64 on,.bool th] (addG S G ((to':Int),x+sh) 1) w5 by first | exact (HI2.out.low hba).row hto2 hgr5 hg5 | exact (HI2.out.low hbb).row hto2 hgr5 hg5);have hd5:=HI5.out.cells2 hbc q00;clear hg5 hgr5))
     all_goals clear hd1 hd2 hd3 hd4 hba hbb HA1 HA2 h0 k0 z1 rk2
     all_goals go_wp2
     all_goals go_roundw
     all_goals first | exact ⟨k+1,_,by omega,by go_num,HI5,HN2⟩ | (simp [intOf];omega)
   ·have hk2:¬ (k:Int)<((playedL f fr).length:Int):=by omega
    have hke:k=(playedL f fr).length:=by omega
    have HE:=hid (HEND.out G (by rw [← hke];exact hB.out))
    have HC2:=hid hI.out.cn
    clear hke hB hI
    go_wp2
    go_roundw
    case rel=>exact ⟨c+1,_,by omega,by go_num,HC2,HE⟩
    case measure=>simp [intOf];omega
  ·as_aux_lemma =>
   have hc2:¬ (c:Int)<(nk:Int):=by omega
   have hce:c=nk:=by omega
   have HCH:=hid (CbI.end HC.out (by rw [HNK.out,← hce];exact hB.out):ChH S f G)
   have HCI:=hid hB.out.g
   clear hB hce hcn hck
   go_wp2
   go_loopg [12,13] (muG G 1+1) (fun kk x mo wr=>∃ (m:Nat) (more:Bool) (G:Gr),x = .int .i64 m∧mo = .bool more∧1≤m∧Hid (CnI w (.slice a1 n c1) v2 (.slice a3 S.ss.length c3) (.slice a4 S.cs.length c4) (.slice ak n ck) (.slice as' ns cs') (.slice ac nk cc) n n (w.heap.size+1+1) rb G wr)∧Hid (ChH S f G)∧Hid (more=true→ChI S f m G∧muG G m+1≤kk∧m+muG G m≤1000)∧Hid (more=false→∀ q,G q≠none↔Acts S f q))
   case atStart=>exact ⟨1,true,G,rfl,rfl,Nat.le_refl _,hI,HCH,hid (fun _=>⟨HCI.out,Nat.le_refl _,by have:=muG_le G 1;omega⟩),hid (fun h=>by cases h)⟩
   case round =>
    clear hI HCH HCI h2 s3
    obtain ⟨m,more,G0,rfl,rfl,hm1,hI,hH,hR,hE⟩:=hrel
    cases more with
    | false =>
     have HE:=hid (hE.out rfl)
     go_wp2
     go_ret
     exact ⟨w.heap.size+1+1,rb,G0,by rw [HN.out];rfl,by rw [HN.out];exact hI.out.g,HE.out,hI.out.b⟩
    | true =>
     obtain ⟨hci,hmu,hm2⟩:=hR.out rfl
     have HG0:=hid (spGood HC.out)
     have HST:=hid (show ChR S f m G0 (0 * 128) false G0 from hci.start)
     clear hR hE hci
     go_wp2
     go_loopw [13,14] (fun mo x wr=>∃ (d:Nat) (more:Bool) (G:Gr),d≤n∧mo = .bool more∧x = .int .i64 d∧Hid (CnI w (.slice a1 n c1) v2 (.slice a3 S.ss.length c3) (.slice a4 S.cs.length c4) (.slice ak n ck) (.slice as' ns cs') (.slice ac nk cc) n n (w.heap.size+1+1) rb G wr)∧Hid (ChR S f m G0 (d * 128) more G)) (fun _ x _=>n-(intOf x).toNat)
     case atStart=>exact ⟨0,false,G0,Nat.zero_le _,rfl,rfl,hI,HST⟩
     clear hI HST
     obtain ⟨d,more,G,hd,rfl,rfl,hI,hR⟩:=hrel
     by_cases hdn:d<n
     ·as_aux_lemma =>
      have hd2:(d:Int)<(n:Int):=by omega
      have hR0:Hid (ChR S f m G0 (d * 128+0) more G):=hR
      go_wp2
      go_loopw [13,15] (fun mo x wr=>∃ (k:Nat) (more:Bool) (G:Gr),k≤128∧mo = .bool more∧x = .int .i64 k∧Hid (CnI w (.slice a1 n c1) v2 (.slice a3 S.ss.length c3) (.slice a4 S.cs.length c4) (.slice ak n ck) (.slice as' ns cs') (.slice ac nk cc) n n (w.heap.size+1+1) rb G wr)∧Hid (ChR S f m G0 (d * 128+k) more G)) (fun _ x _=>128-(intOf x).toNat)
      case atStart=>exact ⟨0,_,_,by omega,rfl,rfl,hI,hR0⟩
      clear hI hR0 hR
      obtain ⟨k,more,G,hk,rfl,rfl,hI,hR⟩:=hrel
      have r0:=hI.out.g.rowCell hdn
      by_cases hk1:k<128
      ·as_aux_lemma =>
       have hk3:(k:Int)<128:=by omega
       obtain ⟨ya,yb,yv,t0,t1,t2,t3,hls,_⟩:=hI.out.g.at' hdn hk1
       obtain ⟨av,cv,rfl⟩:=hls.form
       obtain ⟨jo,hjo⟩:∃ jo,G ((d:Int),(k:Int))=jo:=⟨_,rfl⟩
       rw [hjo] at t0 t3 hls
       have HLS:=hid (hls.low ((Below.refl _ wr).alloc (Nat.le_refl _) (.cells #[.bool jo.isSome,.int .i64 ya,.int .i64 yb,.slice av (jo.getD 0) cv] 212)))
       have HJO:=hid hjo
       have HC3:=hid (show CnI w (.slice a1 n c1) v2 (.slice a3 S.ss.length c3) (.slice a4 S.cs.length c4) (.slice ak n ck) (.slice as' ns cs') (.slice ac nk cc) n n (w.heap.size+1+1) rb G (wr.alloc (.cells #[.bool jo.isSome,.int .i64 ya,.int .i64 yb,.slice av (jo.getD 0) cv] 212)) from hI.out.low ((Below.refl _ wr).alloc (Nat.le_refl _) _))
       have HB3:=hid (Blk.new wr 212 #[.bool jo.isSome,.int .i64 ya,.int .i64 yb,.slice av (jo.getD 0) cv])
       have HAP:=hid (show ∀ e,e<n→wr.heap.size≠rb e from fun e he=>by
        obtain ⟨ks,k1,_⟩:=hI.out.g.row e he
        have:=k1.lt
        omega)
       clear hls hjo
       go_upto_region 31 with fail
       obtain ⟨P,hP⟩:∃ P,wr.heap.size=P:=⟨_,rfl⟩
       rw [hP] at HB3 HAP ⊢
       generalize wr.alloc (.cells #[.bool jo.isSome,.int .i64 ya,.int .i64 yb,.slice av (jo.getD 0) cv] 212)=W3 at *
       have x0:W3.cell? ⟨P,0,none⟩=some (.bool jo.isSome):=HB3.out.cell 0
       have x3:W3.cell? ⟨P,3,none⟩=some (.slice av (jo.getD 0) cv):=HB3.out.cell 3
       clear t0 t1 t2 t3 r0 hP hI
       cases jo with
       | none =>
        have HSK:=hid (show ChR S f m G0 (d * 128+(k+1)) more G from hR.out.skip (by rw [posP_at hk1,HJO.out];simp))
        simp only [Option.isSome_none,Option.getD_none] at x0 x3
        go_wp2
        go_roundw
        case rel=>exact ⟨k+1,_,_,by omega,rfl,by go_num,HC3,HSK⟩
        case measure=>simp [intOf];omega
       | some j =>
        simp only [Option.isSome_some,Option.getD_some] at x0 x3 ⊢
        by_cases hjm:j=m
        ·have hjm2:=hjm.symm
         subst hjm2
         have HTL:=hid (show ChL S f m G0 (d * 128+k) 0 G from hR.out.takeL (by rw [posP_at hk1];exact HJO.out))
         have HW:=hid (show CwI w (.slice a1 n c1) v2 (.slice a3 S.ss.length c3) (.slice a4 S.cs.length c4) (.slice ak n ck) (.slice as' ns cs') (.slice ac nk cc) n (w.heap.size+1+1) rb P (.int .i64 ya) (.int .i64 yb) (.slice av m cv) m G W3 from ⟨HC3.out,HB3.out,HLS.out,HAP.out⟩)
         have e1:(m==m)=true:=beq_self_eq_true m
         have e2:((m:Int)==(m:Int))=true:=beq_self_eq_true _
         clear hjm hR HC3 HB3 HLS HAP HJO
         go_wp2
         clear x0 x3 e1 e2
         go_loopw [17] (fun x wr=>∃ (p:Nat) (G:Gr),p≤nk∧x = .int .i64 p∧Hid (CwI w (.slice a1 n c1) v2 (.slice a3 S.ss.length c3) (.slice a4 S.cs.length c4) (.slice ak n ck) (.slice as' ns cs') (.slice ac nk cc) n (w.heap.size+1+1) rb P (.int .i64 ya) (.int .i64 yb) (.slice av m cv) m G wr)∧Hid (ChL S f m G0 (d * 128+k) p G)) (fun x _=>nk-(intOf x).toNat)
         case atStart=>exact ⟨0,_,Nat.zero_le _,rfl,HW,HTL⟩
         clear HW HTL
         obtain ⟨p,G,hp,rfl,hI,hL⟩:=hrel
         have h2:wr.cell? ⟨w.heap.size+1,2,none⟩=some (.slice ac nk cc):=hI.out.cn.hd.cell 2
         by_cases hpn:p<nk
         ·as_aux_lemma =>
          have hp2:(p:Int)<(nk:Int):=by omega
          have hcl:p<(onL f 3 S.cs.length).length:=by rw [HNK.out];exact hpn
          have s3:wr.cell? ⟨w.heap.size,3,none⟩=some (.slice a4 S.cs.length c4):=hI.out.cn.sp.cell 3
          obtain ⟨bc,oc,c',ev,hbc,q00⟩:=HH.out.cous.intAt p hcl
          rw [HNK.out] at ev
          cases ev
          have hm:=mem_onL.1 (List.getElem_mem hcl)
          obtain ⟨x,hx⟩:∃ x,(onL f 3 S.cs.length)[p]=x:=⟨_,rfl⟩
          rw [hx] at q00 hm
          obtain ⟨hx0,hx1,hon⟩:=hm
          obtain ⟨i,rfl⟩:=Int.eq_ofNat_of_zero_le hx0
          have hi:i<S.cs.length:=by omega
          have q0:=(hI.out.cn.b.cell hbc).trans q00
          obtain ⟨b,o,c',ev,_,r0,r1,r2,r3,r4,r5⟩:=(HSP.out.later hI.out.cn.b).cAt i hi
          cases ev
          obtain ⟨p0,p1,p2,p3,p4,p5,p6,p7,_⟩:=cp_good HC.out (List.getElem_mem hi)
          have HGB:=hid (show ∀ q j,G q=some j→j≤100000 from fun q j e=>Nat.le_trans (hL.out.r.le q j e) (by omega))
          have hthr:thrB S f (posP (d * 128+k)) i=(S.cs[i].thr&&decide (S.cs[i].frm=(d:Int))):=by
           unfold thrB
           rw [List.getElem?_eq_getElem hi,posP_at hk1]
           simp only [decide_eq_true hon,Bool.true_and]
          have hto3:thrTo S (posP (d * 128+k)) i=(S.cs[i].to,(k:Int)+S.cs[i].shift):=by
           unfold thrTo
           rw [List.getElem?_eq_getElem hi,posP_at hk1]
          have HSKL:=hid (fun (h:thrB S f (posP (d * 128+k)) i=false)=>hL.out.skip hcl hx h)
          have HADL:=hid (fun (h:thrB S f (posP (d * 128+k)) i=true)=>hL.out.add hcl hx hi h)
          rw [hthr] at HSKL HADL
          rw [hto3] at HADL
          obtain ⟨nm,hnm⟩:∃ x,S.cs[i].name=x:=⟨_,rfl⟩
          obtain ⟨frI,hfr⟩:∃ x,S.cs[i].frm=x:=⟨_,rfl⟩
          obtain ⟨toI,hto⟩:∃ x,S.cs[i].to=x:=⟨_,rfl⟩
          obtain ⟨sh,hsh⟩:∃ x,S.cs[i].shift=x:=⟨_,rfl⟩
          obtain ⟨on,hon2⟩:∃ x,S.cs[i].only=x:=⟨_,rfl⟩
          obtain ⟨th,hth⟩:∃ x,S.cs[i].thr=x:=⟨_,rfl⟩
          rw [hnm] at r0
          rw [hfr] at r1 p0 p1 HSKL HADL
          rw [hto] at r2 p2 p3 HADL
          rw [hsh] at r3 p4 p5 HADL
          rw [hon2] at r4
          rw [hth] at r5 HSKL HADL
          obtain ⟨fr,rfl⟩:=Int.eq_ofNat_of_zero_le p0
          obtain ⟨to',rfl⟩:=Int.eq_ofNat_of_zero_le p2
          rw [HN.out] at p1 p3
          have hto2:to'<n:=by omega
          have y0:=cell_alloc h2
          have y1:=cell_alloc q0
          have y2:=cell_alloc s3
          have y3:=cell_alloc r0
          have y4:=cell_alloc r1
          have y5:=cell_alloc r2
          have y6:=cell_alloc r3
          have y7:=cell_alloc r4
          have y8:=cell_alloc r5
          clear hthr hto3 hx hfr hto hsh hon2 hth hnm p0 p2 hx0 hx1
          go_wp2_with fail
          go_region
          have HW3:=hid (show CwI w (.slice a1 n c1) v2 (.slice a3 S.ss.length c3) (.slice (some ⟨b,o,none⟩) S.cs.length c4) (.slice ak n ck) (.slice as' ns cs') (.slice (some ⟨bc,oc,none⟩) nk cc) n (w.heap.size+1+1) rb P (.int .i64 ya) (.int .i64 yb) (.slice av m cv) m G ((wr.alloc (.cells #[.string nm,.int .i64 fr,.int .i64 to',.int .i64 sh,.int .i64 on,.bool th] 145)).drew) from hI.out.low (((Below.refl _ wr).alloc (Nat.le_refl _) _).drew))
          have HQ3:=hid ((Blk.new wr 145 #[.string nm,.int .i64 fr,.int .i64 to',.int .i64 sh,.int .i64 on,.bool th]).below ((Below.refl _ (wr.alloc (.cells #[.string nm,.int .i64 fr,.int .i64 to',.int .i64 sh,.int .i64 on,.bool th] 145))).drew))
          obtain ⟨Q,hQ⟩:∃ Q,wr.heap.size=Q:=⟨_,rfl⟩
          rw [hQ] at HQ3 ⊢
          generalize (wr.alloc (.cells #[.string nm,.int .i64 fr,.int .i64 to',.int .i64 sh,.int .i64 on,.bool th] 145)).drew=W3 at *
          clear hQ y0 y1 y2 y3 y4 y5 y6 y7 y8 q0 r0 r1 r2 r3 r4 r5 h2 s3 hI hL
          have z1:W3.cell? ⟨Q,1,none⟩=some (.int .i64 fr):=HQ3.out.cell 1
          have z5:W3.cell? ⟨Q,5,none⟩=some (.bool th):=HQ3.out.cell 5
          cases th with
          | false =>
           have HN1:=hid (HSKL.out (by simp))
           clear HSKL HADL
           go_wp2
           go_roundw
           case rel=>exact ⟨p+1,_,by omega,by go_num,HW3,HN1⟩
           case measure=>simp [intOf];omega
          | true =>
           by_cases hfd:fr=d
           ·as_aux_lemma =>
            have HN1:=hid (HADL.out (by rw [hfd];simp))
            have e1:((fr:Int)==(d:Int))=true:=by rw [hfd];exact beq_self_eq_true _
            have e2:IntKind.i64.wrap ((k:Int)+sh)=(k:Int)+sh:=IntWalk.i64_in _ (by omega)
            have HNX:=hid hbc
            have HQX:=hid q00
            have hdr:=(HW3.out.low ((Below.refl _ W3).drew)).cells (HQ3.out.below ((Below.refl _ W3).drew)) hbc q00
            have HWC:=hid (fun (w':World) (h:CwI w (.slice a1 n c1) v2 (.slice a3 S.ss.length c3) (.slice (some ⟨b,o,none⟩) S.cs.length c4) (.slice ak n ck) (.slice as' ns cs') (.slice (some ⟨bc,oc,none⟩) nk cc) n (w.heap.size+1+1) rb P (.int .i64 ya) (.int .i64 yb) (.slice av m cv) m G w')=>with_ls (.slice av m cv) m i w' h.ls (by omega))
            have HAC:=hid (fun (W4:World) (u:Value) (h:CwI w (.slice a1 n c1) v2 (.slice a3 S.ss.length c3) (.slice (some ⟨b,o,none⟩) S.cs.length c4) (.slice ak n ck) (.slice as' ns cs') (.slice (some ⟨bc,oc,none⟩) nk cc) n (w.heap.size+1+1) rb P (.int .i64 ya) (.int .i64 yb) (.slice av m cv) m G W4) (hu:LsI W4 u (m+1))=>(show Calls Tryz.prog 158 #[.agg #[.slice a1 n c1,v2,.slice a3 S.ss.length c3,.slice (some ⟨b,o,none⟩) S.cs.length c4],.slice (some ⟨w.heap.size+1+1,0,none⟩) n n,.int .i64 to',.int .i64 ((k:Int)+sh),.agg #[.bool true,.int .i64 ya,.int .i64 yb,u]] W4 (AdR w.heap.size n (w.heap.size+1+1) rb (addG S G ((to':Int),(k:Int)+sh) (m+1)) to' W4) by
             have ha:=add_any (.slice a1 S.ds.length c1) v2 (.slice a3 S.ss.length c3) (.slice (some ⟨b,o,none⟩) S.cs.length c4) S HC.out fp w.heap.size (w.heap.size+1+1) rb G to' (by rw [HN.out];exact hto2) ((k:Int)+sh) ya yb u (m+1) W4 (HSP.out.later h.cn.b) (by rw [HN.out];exact h.cn.g) hu HGB.out
             rw [HN.out] at ha
             exact ha))
            clear HSKL HADL
            go_upto_region 38 with fail
            clear e1 hfd z1 z5
            go_region_held3 (fun w'=>w'.cell? ⟨w.heap.size,0,none⟩=some (.slice a1 n c1)∧w'.cell? ⟨w.heap.size,1,none⟩=some v2∧w'.cell? ⟨w.heap.size,2,none⟩=some (.slice a3 S.ss.length c3)∧w'.cell? ⟨w.heap.size,3,none⟩=some (.slice (some ⟨b,o,none⟩) S.cs.length c4)∧w'.cell? ⟨P,1,none⟩=some (.int .i64 ya)∧w'.cell? ⟨P,2,none⟩=some (.int .i64 yb)∧w'.cell? ⟨P,3,none⟩=some (.slice av m cv)∧w'.cell? ⟨Q,2,none⟩=some (.int .i64 to')∧w'.cell? ⟨Q,3,none⟩=some (.int .i64 sh)∧w'.cell? ⟨w.heap.size+1,2,none⟩=some (.slice (some ⟨bc,oc,none⟩) nk cc)∧w'.cell? ⟨bc,oc+p,none⟩=some (.int .i64 i)) (first | exact hdr.2 | assumption) (first | (go_at_call 159;(with_reducible refine (HWC.out _ hdr.1.1).mono ?_);rintro e w2 ⟨u,rfl,hu2,hb2⟩;obtain ⟨au,cu,rfl⟩:=hu2.form;have hn:=(hdr.1.1.low hb2).cells (hdr.1.2.below hb2) HNX.out HQX.out;have hn2:=hn.2;clear hb2) | (go_at_call 158;(with_reducible refine (HAC.out _ _ hn.1.1 hu2).mono ?_);rintro e w5 ⟨⟨u5,rfl⟩,hg5,hgr5⟩;have h5:=hn.1.1.rowQ hn.1.2 hto2 hgr5 hg5;have HI5:=hid h5.1;have hd5:=(h5.1.cells h5.2 HNX.out HQX.out).2;clear hg5 hgr5))
            clear hdr hn hn2 hd5 h5
            go_wp2
            go_roundw
            case rel=>exact ⟨p+1,_,by omega,by go_num,HI5,HN1⟩
            case measure=>simp [intOf];omega
           ·have HN1:=hid (HSKL.out (by simp;omega))
            have e1:((fr:Int)==(d:Int))=false:=by rw [beq_eq_false_iff_ne];omega
            clear HSKL HADL
            go_wp2
            go_roundw
            case rel=>exact ⟨p+1,_,by omega,by go_num,HW3,HN1⟩
            case measure=>simp [intOf];omega
         ·have hp2:¬ (p:Int)<(nk:Int):=by omega
          have hpe:p=(onL f 3 S.cs.length).length:=by rw [HNK.out];omega
          have HE:=hid (show ChR S f m G0 (d * 128+(k+1)) true G from ChL.end (by rw [← hpe];exact hL.out))
          have HC2:=hid hI.out.cn
          clear hpe hL hI
          go_wp2
          go_roundw
          case rel=>exact ⟨k+1,_,_,by omega,rfl,by go_num,HC2,HE⟩
          case measure=>simp [intOf];omega
        ·have HSK:=hid (show ChR S f m G0 (d * 128+(k+1)) more G from hR.out.skip (by rw [posP_at hk1,HJO.out];simpa using hjm))
         have e1:(j==m)=false:=by rw [beq_eq_false_iff_ne];exact hjm
         have e2:((j:Int)==(m:Int))=false:=by rw [beq_eq_false_iff_ne];omega
         clear hjm
         go_wp2
         go_roundw
         case rel=>exact ⟨k+1,_,_,by omega,rfl,by go_num,HC3,HSK⟩
         case measure=>simp [intOf];omega
      ·have hk3:¬ (k:Int)<128:=by omega
       have hk8:k=128:=by omega
       have HN2:=hid (show ChR S f m G0 ((d+1) * 128) more G by have:=hR.out;rwa [hk8,show d * 128+128=(d+1) * 128 by omega] at this)
       clear hk8 hR
       go_wp2
       go_roundw
       case rel=>exact ⟨d+1,_,_,by omega,rfl,by go_num,hI,HN2⟩
       case measure=>simp [intOf];omega
     ·have hd2:¬ (d:Int)<(n:Int):=by omega
      have hdn2:d=S.ds.length:=by rw [HN.out];omega
      have HR2:=hid (show ChR S f m G0 (S.ds.length * 128) more G by have:=hR.out;rwa [hdn2] at this)
      have HH2:=hid (hH.out.le hR.out.since)
      clear hR hdn2
      go_wp2
      cases more with
      | true =>
       have hfw:=HR2.out.fewer HG0.out.ds HG0.out.d
       have HNX:=hid (HR2.out.next HG0.out.ds HG0.out.d)
       go_roundg (muG G (m+1)+1)
       case rel=>exact ⟨m+1,true,G,by go_num,rfl,by omega,hI,HH2,hid (fun _=>⟨HNX.out,Nat.le_refl _,by omega⟩),hid (fun h=>by cases h)⟩
       case measure=>omega
      | false =>
       have HAL:=hid (chains_all HG0.out.ds HG0.out.d (fun c hc=>(cp_good HC.out hc).2.2.2.2.2.2.2.2) hm1 HR2.out HH2.out)
       go_roundg 0
       case rel=>exact ⟨m+1,false,G,by go_num,rfl,by omega,hI,HH2,hid (fun h=>by cases h),hid (fun _=>HAL.out)⟩
       case measure=>omega
end Go.Proofs.YteflhbfgpknabaaGreatDoor
