/-
  A part of the proof: AH7,AH8,AI1.
-/
import Derived.Test.YteflhbfgpknabaaGreatDoorL09
import Derived.Test.YteflhbfgpknabaaGreatDoorL07
set_option maxRecDepth 100000
set_option maxHeartbeats 6400000
namespace Go.Proofs.YteflhbfgpknabaaGreatDoor
open Go.Lib (hid)
open Go.RowKit
theorem LsI.form {W:World} {v:Value} {j:Nat} (h:LsI W v j):∃ a c,v = .slice a j c:=by
 obtain ⟨⟨l,h1,h2⟩,_⟩:=h
 obtain ⟨a,c,e⟩:=h2.intForm
 exact ⟨a,c,by rw [e,h1]⟩
def AdR (base n LB:Nat) (rb:Nat→Nat) (G:Gr) (d:Nat) (w:World) (e:Ending) (w':World):Prop:=(∃ u,e = .returned u)∧GrI base n n LB rb G w'∧w.grownBy w' (some (rb d))
theorem ad_same {base n LB:Nat} {rb:Nat→Nat} {G G':Gr} {d:Nat} {w w':World} {u:Value} (h:GrI base n n LB rb G w) (hb:Below w.heap.size w w') (e:G'=G):AdR base n LB rb G' d w (.returned u) w':=⟨⟨u,rfl⟩,by rw [e];exact h.low hb,below_grown2 hb⟩
where
 below_grown2 {w w':World} {r:Option Nat} (h:Below w.heap.size w w'):w.grownBy w' r:=⟨h.os,h.tape,h.output,h.size,fun i hi _=>h.block i hi⟩
theorem add_any (v1 v2 v3 v4:Value) (S:Sp) (hc:(checkP S).2=0) (fp:Nat→Value) (base LB:Nat) (rb:Nat→Nat) (G:Gr) (d:Nat) (hd:d<S.ds.length) (key p fr:Int) (v:Value) (j:Nat) (w:World) (hsp:SpRd w v1 v2 v3 v4 fp S) (hg:GrI base S.ds.length S.ds.length LB rb G w) (hv:LsI w v j) (hG:∀ q i,G q=some i→i≤100000) :
  Calls Tryz.prog 158 #[.agg #[v1,v2,v3,v4],.slice (some ⟨LB,0,none⟩) S.ds.length S.ds.length,.int .i64 d,.int .i64 key,.agg #[.bool true,.int .i64 p,.int .i64 fr,v]] w (AdR base S.ds.length LB rb (addG S G ((d:Int),key) j) d w):=by
 obtain ⟨⟨a1,c1,rfl⟩,_,_,_⟩:=hsp.forms
 obtain ⟨av,cv,rfl⟩:=hv.form
 obtain ⟨b,o,c,ev,hbl,r0,r1,r2⟩:=hsp.dAt d hd
 cases ev
 have hds:=dv_small hc (List.getElem_mem hd)
 have l6:=(sp_lens hc).1
 have hkey:keyOk S ((d:Int),key)=decide (S.ds[d].lo≤key∧key≤S.ds[d].hi):=by
  unfold keyOk keyIn
  rw [decide_eq_true (show 0≤((d:Int),key).1 by simp only;omega),decide_eq_true (show ((d:Int),key).1<(S.ds.length:Int) by simp only;omega)]
  simp only
  rw [Int.toNat_natCast,List.getElem?_eq_getElem hd,Bool.true_and,Bool.and_true]
 obtain ⟨n,hn⟩:∃ n,S.ds.length=n:=⟨_,rfl⟩
 have hd2:(d:Int)<(n:Int):=by omega
 obtain ⟨lo,hlo⟩:∃ lo,S.ds[d].lo=lo:=⟨_,rfl⟩
 obtain ⟨up,hup⟩:∃ up,S.ds[d].hi=up:=⟨_,rfl⟩
 obtain ⟨nm,hnm⟩:∃ nm,S.ds[d].name=nm:=⟨_,rfl⟩
 rw [hlo] at r1 hkey hds
 rw [hup] at r2 hkey hds
 rw [hnm] at r0
 rw [hn] at hg hd
 rw [hn]
 have HK:=hid hkey
 have HG:=hid hg
 have HV:=hid hv
 have HGB:=hid hG
 have hlo0:0≤lo:=by omega
 have hup7:up≤127:=by omega
 have b0:=(Blk.new w 27 #[.slice (some ⟨b,o,none⟩) n c1,v2,v3,v4]).alloc (.cells #[.bool true,.int .i64 p,.int .i64 fr,.slice av j cv] 212)
 have b1:=Blk.new (w.alloc (.cells #[.slice (some ⟨b,o,none⟩) n c1,v2,v3,v4] 27)) 212 #[.bool true,.int .i64 p,.int .i64 fr,.slice av j cv]
 rw [World.size_alloc] at b1
 have B0:=hid b0
 have B1:=hid b1
 have HB:=hid (below_two w (.cells #[.slice (some ⟨b,o,none⟩) n c1,v2,v3,v4] 27) (.cells #[.bool true,.int .i64 p,.int .i64 fr,.slice av j cv] 212))
 clear hsp hc hkey hlo hup hnm hn hds hg hv hG b0 b1 l6
 go_enter Tryz.func158,Tryz.ntmps158
 go_upto_region 1 with fail
 generalize (w.alloc (.cells #[.slice (some ⟨b,o,none⟩) n c1,v2,v3,v4] 27)).alloc (.cells #[.bool true,.int .i64 p,.int .i64 fr,.slice av j cv] 212)=W at *
 have s0:W.cell? ⟨w.heap.size,0,none⟩=some (.slice (some ⟨b,o,none⟩) n c1):=B0.out.cell 0
 replace r0:=(HB.out.cell hbl).trans r0
 replace r1:=(HB.out.cell hbl).trans r1
 replace r2:=(HB.out.cell hbl).trans r2
 go_upto_region 2 with fail
 have D0:=hid (Blk.new W 109 #[.string nm,.int .i64 lo,.int .i64 up])
 have HB1:=hid (below_step HB.out ((Below.refl _ W).alloc (Nat.le_refl _) (.cells #[.string nm,.int .i64 lo,.int .i64 up] 109)))
 have B1':=hid (B1.out.alloc (.cells #[.string nm,.int .i64 lo,.int .i64 up] 109))
 obtain ⟨X,hX⟩:∃ X,W.heap.size=X:=⟨_,rfl⟩
 rw [hX] at D0 ⊢
 generalize W.alloc (.cells #[.string nm,.int .i64 lo,.int .i64 up] 109)=W1 at *
 have z1:W1.cell? ⟨X,1,none⟩=some (.int .i64 lo):=D0.out.cell 1
 have z2:W1.cell? ⟨X,2,none⟩=some (.int .i64 up):=D0.out.cell 2
 clear r0 r1 r2 s0 B0 B1 HB hX hbl
 by_cases k0:key<lo
 ·have HN:=hid (addG_out (G:=G) (n:=j) (show keyOk S ((d:Int),key)=false by rw [HK.out,decide_eq_false_iff_not];omega))
  have d1:decide (key<lo)=true:=decide_eq_true k0
  go_wp2
  go_end0
  exact ad_same HG.out HB1.out HN.out
 have d1:decide (key<lo)=false:=decide_eq_false k0
 by_cases k1:up<key
 ·have HN:=hid (addG_out (G:=G) (n:=j) (show keyOk S ((d:Int),key)=false by rw [HK.out,decide_eq_false_iff_not];omega))
  have d2:decide (up<key)=true:=decide_eq_true k1
  go_wp2
  go_end0
  exact ad_same HG.out HB1.out HN.out
 have d2:decide (up<key)=false:=decide_eq_false k1
 obtain ⟨k,rfl⟩:=Int.eq_ofNat_of_zero_le (show 0≤key by omega)
 have HKO:=hid (show keyOk S ((d:Int),(k:Int))=true by rw [HK.out,decide_eq_true_iff];omega)
 have hk:k<128:=by omega
 have hk2:(k:Int)<128:=by omega
 clear HK k0 k1
 have HG1:=hid (HG.out.low HB1.out)
 have HV1:=hid (HV.out.low HB1.out)
 have g0:=HG1.out.rowCell hd
 obtain ⟨ca,cb,cw,q0,q1,q2,q3,hcw,_⟩:=HG1.out.at' hd hk
 have HCW:=hid hcw
 obtain ⟨jo,hjo⟩:∃ jo,G ((d:Int),(k:Int))=jo:=⟨_,rfl⟩
 rw [hjo] at q0 HCW
 have HJO:=hid hjo
 obtain ⟨aw,cc,ew⟩:=HCW.out.form
 subst ew
 clear hcw hjo hlo0 hup7
 go_upto_region 4 with fail
 have HB2:=hid (show Below W1.heap.size W1 (W1.alloc (.cells #[.bool jo.isSome,.int .i64 ca,.int .i64 cb,.slice aw (jo.getD 0) cc] 212)) from (Below.refl _ _).alloc (Nat.le_refl _) _)
 have Y0:=hid (Blk.new W1 212 #[.bool jo.isSome,.int .i64 ca,.int .i64 cb,.slice aw (jo.getD 0) cc])
 obtain ⟨Y,hY⟩:∃ Y,W1.heap.size=Y:=⟨_,rfl⟩
 rw [hY] at Y0 ⊢
 generalize W1.alloc (.cells #[.bool jo.isSome,.int .i64 ca,.int .i64 cb,.slice aw (jo.getD 0) cc] 212)=W2 at *
 clear hY z1 z2
 have y0:W2.cell? ⟨Y,0,none⟩=some (.bool jo.isSome):=Y0.out.cell 0
 have y3:W2.cell? ⟨Y,3,none⟩=some (.slice aw (jo.getD 0) cc):=Y0.out.cell 3
 have w3:W2.cell? ⟨w.heap.size+1,3,none⟩=some (.slice av j cv):=(B1'.out.below HB2.out).cell 3
 cases jo with
 | none =>
  simp only [Option.isSome_none,Option.getD_none] at y0 y3
  have HGx:=hid (HG1.out.low HB2.out)
  have HVx:=hid (HV1.out.low HB2.out)
  have g1:=HGx.out.rowCell hd
  obtain ⟨ya,yb,yw,t0,t1,t2,t3,_,tf⟩:=HGx.out.at' hd hk
  have u0:=tf (k * 4)
  have u1:=tf (k * 4+1)
  have u2:=tf (k * 4+2)
  have u3:=tf (k * 4+3)
  have hx:=B1'.out.below HB2.out
  have x0:W2.cell? ⟨w.heap.size+1,0,none⟩=some (.bool true):=hx.cell 0
  have x1:W2.cell? ⟨w.heap.size+1,1,none⟩=some (.int .i64 p):=hx.cell 1
  have x2:W2.cell? ⟨w.heap.size+1,2,none⟩=some (.int .i64 fr):=hx.cell 2
  have x3:W2.cell? ⟨w.heap.size+1,3,none⟩=some (.slice av j cv):=hx.cell 3
  have HPUT:=hid (HGx.out.put hd hk (a:=p) (b:=fr) HVx.out)
  have HGR:=hid ((ad_same.below_grown2 (below_step HB1.out HB2.out)).trans (put4_grown W2 (rb d) k (.bool true) (.int .i64 p) (.int .i64 fr) (.slice av j cv)))
  rw [setG_add HKO.out (by rw [HJO.out];exact .inl rfl)] at HPUT
  clear hx tf q0 q1 q2 q3 g0
  go_wp2_with fail
  go_region
  all_goals (have HPD:=hid (HPUT.out.low ((Below.refl _ _).drew));have HGD:=hid (HGR.out.trans (ad_same.below_grown2 ((Below.refl _ _).drew) (r:=some (rb d)))))
  all_goals unfold put4 at HPD HGD HPUT HGR
  all_goals go_wp2
  all_goals go_end0
  all_goals first | exact ⟨⟨_,rfl⟩,HPUT.out,HGR.out⟩ | exact ⟨⟨_,rfl⟩,HPD.out,HGD.out⟩
 | some jj =>
  simp only [Option.isSome_some,Option.getD_some] at y0 y3 HCW
  have hjj:jj≤100000:=HGB.out _ _ HJO.out
  by_cases hjq:jj=j
  ·have e1:(jj==j)=true:=by rw [beq_iff_eq];exact hjq
   have e2:((jj:Int)==(j:Int))=true:=by rw [beq_iff_eq];omega
   obtain ⟨⟨lo',hlo1,hlo2⟩,_⟩:=HV1.out.low HB2.out
   obtain ⟨⟨lw,hlw1,hlw2⟩,_⟩:=HCW.out.low HB2.out
   have HLS:=hid (less_any lo' lw _ _ W2 hlo2 hlw2 (by omega))
   have HJQ:=hid (show (some jj:Option Nat)=some j by rw [hjq])
   clear hjq hlo1 hlo2 hlw1 hlw2
   go_wp2_with fail
   refine HLS.out.mono ?_
   rintro e W3 ⟨⟨bb,rfl⟩,hb3⟩
   have HB3:=hid (below_step HB2.out hb3)
   clear y0 y3 w3 hb3
   cases bb with
   | true =>
    have HGx:=hid (HG1.out.low HB3.out)
    have HVx:=hid (HV1.out.low HB3.out)
    have g1:=HGx.out.rowCell hd
    obtain ⟨ya,yb,yw,t0,t1,t2,t3,_,tf⟩:=HGx.out.at' hd hk
    have u0:=tf (k * 4)
    have u1:=tf (k * 4+1)
    have u2:=tf (k * 4+2)
    have u3:=tf (k * 4+3)
    have hx:=B1'.out.below HB3.out
    have x0:W3.cell? ⟨w.heap.size+1,0,none⟩=some (.bool true):=hx.cell 0
    have x1:W3.cell? ⟨w.heap.size+1,1,none⟩=some (.int .i64 p):=hx.cell 1
    have x2:W3.cell? ⟨w.heap.size+1,2,none⟩=some (.int .i64 fr):=hx.cell 2
    have x3:W3.cell? ⟨w.heap.size+1,3,none⟩=some (.slice av j cv):=hx.cell 3
    have HPUT:=hid (HGx.out.put hd hk (a:=p) (b:=fr) HVx.out)
    have HGR:=hid ((ad_same.below_grown2 (below_step HB1.out HB3.out)).trans (put4_grown W3 (rb d) k (.bool true) (.int .i64 p) (.int .i64 fr) (.slice av j cv)))
    rw [setG_add HKO.out (by rw [HJO.out];exact .inr HJQ.out)] at HPUT
    clear hx tf q0 q1 q2 q3 g0
    go_wp2_with fail
    go_region
    all_goals (have HPD:=hid (HPUT.out.low ((Below.refl _ _).drew));have HGD:=hid (HGR.out.trans (ad_same.below_grown2 ((Below.refl _ _).drew) (r:=some (rb d)))))
    all_goals unfold put4 at HPD HGD HPUT HGR
    all_goals go_wp2
    all_goals go_end0
    all_goals first | exact ⟨⟨_,rfl⟩,HPUT.out,HGR.out⟩ | exact ⟨⟨_,rfl⟩,HPD.out,HGD.out⟩
   | false =>
    have HN:=hid (addG_same (S:=S) (n:=j) HJO.out)
    have HBF:=hid (below_step HB1.out HB3.out)
    go_wp2
    go_end0
    exact ad_same HG.out HBF.out HN.out
  ·have e1:(jj==j)=false:=by rw [beq_eq_false_iff_ne];exact hjq
   have e2:((jj:Int)==(j:Int))=false:=by rw [beq_eq_false_iff_ne];omega
   have HN:=hid (addG_same (S:=S) (n:=j) HJO.out)
   have HBF:=hid (below_step HB1.out HB2.out)
   clear hjq
   go_wp2
   go_end0
   exact ad_same HG.out HBF.out HN.out
def kG (f:Th→Int) (i j:Nat):Gr:=fun q=>if (0≤q.1∧q.1<i∧q.2∈playedL f q.1)∨(q.1=i∧q.2∈(playedL f i).take j) then some 0 else none
theorem kG_next (f:Th→Int) (i:Nat):kG f i (playedL f i).length=kG f (i+1) 0:=by
 funext q
 unfold kG
 rw [List.take_length,List.take_zero]
 have e:((0≤q.1∧q.1<(i:Int)∧q.2∈playedL f q.1)∨(q.1=(i:Int)∧q.2∈playedL f i))↔((0≤q.1∧q.1<((i+1:Nat):Int)∧q.2∈playedL f q.1)∨(q.1=((i+1:Nat):Int)∧q.2∈([]:List Int))):=by
  constructor
  ·rintro (⟨h1,h2,h3⟩ | ⟨h1,h2⟩)
   ·exact .inl ⟨h1,by omega,h3⟩
   ·exact .inl ⟨by omega,by omega,by rw [h1];exact h2⟩
  ·rintro (⟨h1,h2,h3⟩ | ⟨_,h2⟩)
   ·by_cases q1:q.1=(i:Int)
    ·exact .inr ⟨q1,by rw [← q1];exact h3⟩
    ·exact .inl ⟨h1,by omega,h3⟩
   ·cases h2
 by_cases h:((0≤q.1∧q.1<(i:Int)∧q.2∈playedL f q.1)∨(q.1=(i:Int)∧q.2∈playedL f i))
 ·rw [if_pos h,if_pos (e.1 h)]
 ·rw [if_neg h,if_neg (fun z=>h (e.2 z))]
theorem kG_put {f:Th→Int} {i j:Nat} (hj:j<(playedL f i).length):kG f i (j+1)=setG (kG f i j) ((i:Int),(playedL f i)[j]) 0:=by
 funext q
 unfold setG kG
 rw [List.take_succ_eq_append_getElem hj]
 by_cases e:q=((i:Int),(playedL f i)[j])
 ·subst e
  rw [if_pos rfl,if_pos (.inr ⟨rfl,List.mem_append_right _ (List.mem_singleton.2 rfl)⟩)]
 ·rw [if_neg e]
  have h:((0≤q.1∧q.1<(i:Int)∧q.2∈playedL f q.1)∨(q.1=(i:Int)∧q.2∈(playedL f i).take j++[(playedL f i)[j]]))↔((0≤q.1∧q.1<(i:Int)∧q.2∈playedL f q.1)∨(q.1=(i:Int)∧q.2∈(playedL f i).take j)):=by
   constructor
   ·rintro (h | ⟨h1,h2⟩)
    ·exact .inl h
    ·rcases List.mem_append.1 h2 with h2 | h2
     ·exact .inr ⟨h1,h2⟩
     ·exact absurd (Prod.ext h1 (List.mem_singleton.1 h2)) e
   ·rintro (h | ⟨h1,h2⟩)
    ·exact .inl h
    ·exact .inr ⟨h1,List.mem_append_left _ h2⟩
  by_cases z:((0≤q.1∧q.1<(i:Int)∧q.2∈playedL f q.1)∨(q.1=(i:Int)∧q.2∈(playedL f i).take j))
  ·rw [if_pos z,if_pos (h.2 z)]
  ·rw [if_neg z,if_neg (fun y=>z (h.1 y))]
theorem kG_row (f:Th→Int) (i:Nat) (k:Int):kG f i 0 ((i:Int),k)=none:=by
 unfold kG
 rw [if_neg]
 rintro (h | h)
 ·simp only at h;omega
 ·rw [List.take_zero] at h;cases h.2
theorem ch_info:(Tryz.prog.info? 212).map (fun i=>(i.zero,i.size,i.bytes))=some (some (.agg #[.bool false,.int .i64 0,.int .i64 0,.slice none 0 0]),4,48):=by kernel_rfl
theorem chs_info:(Tryz.prog.info? 213).map (fun i=>(i.zero,i.size,i.bytes))=some (some (.slice none 0 0),1,24):=by kernel_rfl
def ch0:Array Value:=madeCells #[.bool false,.int .i64 0,.int .i64 0,.slice none 0 0] (128 * 4)
theorem ch0_size:ch0.size=512:=by unfold ch0;rw [size_madeCells]
theorem ch0_get {k j:Nat} (hk:k<128) (hj:j<4):ch0[4 * k+j]?=[Value.bool false,.int .i64 0,.int .i64 0,.slice none 0 0][j]?:=by
 have h:=made_flat (enc:=fun _:Unit=>[Value.bool false,.int .i64 0,.int .i64 0,.slice none 0 0]) () (k:=4) (fun _=>rfl) (by omega) 128
 have h2:ch0.toList=((List.replicate 128 ()).map fun _:Unit=>[Value.bool false,.int .i64 0,.int .i64 0,.slice none 0 0]).flatten:=h
 rw [← Array.getElem?_toList,h2,Nat.mul_comm,flat_get _ (by intro r hr;obtain ⟨_,_,rfl⟩:=List.mem_map.1 hr;rfl) k (by rw [List.length_map,List.length_replicate];exact hk) j hj]
 rw [List.getElem_map]
theorem ch0_none (W:World) {k:Nat} (hk:k<128):ChC W ch0 k none :=
 ⟨ch0_get hk (j:=0) (by omega),⟨0,ch0_get hk (j:=1) (by omega)⟩,⟨0,ch0_get hk (j:=2) (by omega)⟩,_,ch0_get hk (j:=3) (by omega),LsI.nil W⟩
theorem make_chain:∀ w:World,(Instr.makeSlice 213 (.int .i64 128) (.int .i64 128)).run Tryz.prog w = .ok (.slice (some ⟨w.heap.size,0,none⟩) 128 128) (w.alloc (.cells ch0 212)):=by
 intro w
 obtain ⟨i0,hi,hz0,hz1,hz2⟩:=info_parts ch_info
 have:=run_make_rowN (P:=Tryz.prog) 213 212 i0 _ Tryz.underlying213 hi hz0 .i64 .i64 128 128 (Nat.le_refl _) (by rw [hz2];omega) (by omega) w
 rw [hz1] at this
 exact this
theorem make_chains (n:Nat) (hn:n≤1000000):∀ w:World,(Instr.makeSlice 175 (.int .i64 (n:Int)) (.int .i64 (n:Int))).run Tryz.prog w = .ok (.slice (some ⟨w.heap.size,0,none⟩) n n) (w.alloc (.cells (madeCells #[.slice none 0 0] (n * 1)) 213)):=by
 intro w
 obtain ⟨i0,hi,hz0,hz1,hz2⟩:=info_parts chs_info
 have:=run_make_rowN (P:=Tryz.prog) 175 213 i0 _ Tryz.underlying175 hi hz0 .i64 .i64 n n (Nat.le_refl _) (by rw [hz2];omega) (by omega) w
 rw [hz1] at this
 exact this
theorem GrI.start {base sz LB:Nat} {rb:Nat→Nat} {G:Gr} {W:World} {cs:Array Value} (hb:Blk W LB 213 cs) (hs:cs.size=sz) (hl:base≤LB):GrI base sz 0 LB rb G W :=
 ⟨⟨cs,hb,hs,fun d hd=>absurd hd (Nat.not_lt_zero d)⟩,fun d hd=>absurd hd (Nat.not_lt_zero d),fun d _ hd=>absurd hd (Nat.not_lt_zero d),hl,fun d hd=>absurd hd (Nat.not_lt_zero d)⟩
theorem GrI.next {base sz i LB:Nat} {rb:Nat→Nat} {G:Gr} {W:World} (h:GrI base sz i LB rb G W) (hi:i<sz) (hw:base≤W.heap.size) (hG:∀ k:Int,G ((i:Int),k)=none):GrI base sz (i+1) LB (fun e=>if e=i then W.heap.size else rb e) G ((W.alloc (.cells ch0 212)).setCell ⟨LB,i,none⟩ (.slice (some ⟨W.heap.size,0,none⟩) 128 128)):=by
 have h1:=h.low ((Below.refl _ W).alloc (Nat.le_refl _) (.cells ch0 212))
 obtain ⟨⟨cs,c1,c2,c3⟩,r1,r2,r3,r4⟩:=h1
 have hn:=Blk.new W 212 ch0
 have hg:(W.alloc (.cells ch0 212)).grownBy ((W.alloc (.cells ch0 212)).setCell ⟨LB,i,none⟩ (.slice (some ⟨W.heap.size,0,none⟩) 128 128)) (some LB):=set_grown _ _ _ _
 have hold:∀ d,d<i→rb d<W.heap.size:=fun d hd=>by
  obtain ⟨ks,k1,_⟩:=h.row d hd
  exact k1.lt
 refine ⟨⟨_,c1.set i _,by rw [Array.size_setIfInBounds];exact c2,fun d hd=>?_⟩,fun d hd=>?_,fun d e hd he hq=>?_,r3,fun d hd=>?_⟩
 ·rw [Array.getElem?_setIfInBounds]
  by_cases q:i=d
  ·rw [if_pos q,if_pos (by omega),if_pos q.symm]
  ·rw [if_neg q,if_neg (fun z=>q z.symm)]
   exact c3 d (by omega)
 ·by_cases q:d=i
  ·subst q
   simp only [if_true]
   refine ⟨ch0,hn.other _ _ (hn.ne c1 (by decide)),ch0_size,fun k hk=>?_⟩
   rw [hG]
   exact ch0_none _ hk
  ·simp only [if_neg q]
   obtain ⟨ks,k1,k2,k3⟩:=r1 d (by omega)
   refine ⟨ks,k1.other _ _ (k1.ne c1 (by decide)),k2,fun k hk=>?_⟩
   obtain ⟨z0,z1,z2,v,z3,hv⟩:=k3 k hk
   exact ⟨z0,z1,z2,v,z3,hv.keep c1 (by decide) hg⟩
 ·by_cases qd:d=i
  ·by_cases qe:e=i
   ·omega
   ·simp only [if_pos qd,if_neg qe] at hq
    have:=hold e (by omega)
    omega
  ·by_cases qe:e=i
   ·simp only [if_neg qd,if_pos qe] at hq
    have:=hold d (by omega)
    omega
   ·simp only [if_neg qd,if_neg qe] at hq
    exact r2 d e (by omega) (by omega) hq
 ·by_cases q:d=i
  ·simp only [if_pos q];exact hw
  ·simp only [if_neg q];exact r4 d (by omega)
structure CnI (w:World) (v1 v2 v3 v4 vk vs vc:Value) (n m LB:Nat) (rb:Nat→Nat) (G:Gr) (W:World):Prop where
 b:Below w.heap.size w W
 sp:Blk W w.heap.size 27 #[v1,v2,v3,v4]
 hd:Blk W (w.heap.size+1) 32 #[vk,vs,vc]
 g:GrI w.heap.size n m LB rb G W
theorem CnI.low {w:World} {v1 v2 v3 v4 vk vs vc:Value} {n m LB:Nat} {rb:Nat→Nat} {G:Gr} {W W':World} (h:CnI w v1 v2 v3 v4 vk vs vc n m LB rb G W) (hb:Below W.heap.size W W'):CnI w v1 v2 v3 v4 vk vs vc n m LB rb G W' :=
 ⟨below_step h.b hb,h.sp.below hb,h.hd.below hb,h.g.low hb⟩
theorem CnI.row {w:World} {v1 v2 v3 v4 vk vs vc:Value} {n m LB:Nat} {rb:Nat→Nat} {G G':Gr} {W W':World} (h:CnI w v1 v2 v3 v4 vk vs vc n m LB rb G W) {d:Nat} (hd:d<m) (hg:W.grownBy W' (some (rb d))) (h2:GrI w.heap.size n m LB rb G' W'):CnI w v1 v2 v3 v4 vk vs vc n m LB rb G' W':=by
 obtain ⟨ks,k1,_⟩:=h.g.row d hd
 have hn:=h.g.new.2 d hd
 exact ⟨h.b.grown hg h.b.size (fun j e=>by cases e;exact hn),h.sp.grown hg (fun e=>(h.sp.ne k1 (by decide)) (Option.some.inj e).symm),h.hd.grown hg (fun e=>(h.hd.ne k1 (by decide)) (Option.some.inj e).symm),h2⟩
theorem CnI.next {w:World} {v1 v2 v3 v4 vk vs vc:Value} {n i LB:Nat} {rb:Nat→Nat} {G:Gr} {W:World} (h:CnI w v1 v2 v3 v4 vk vs vc n i LB rb G W) (hi:i<n) (hG:∀ k:Int,G ((i:Int),k)=none):CnI w v1 v2 v3 v4 vk vs vc n (i+1) LB (fun e=>if e=i then W.heap.size else rb e) G ((W.alloc (.cells ch0 212)).setCell ⟨LB,i,none⟩ (.slice (some ⟨W.heap.size,0,none⟩) 128 128)):=by
 have h1:=h.low ((Below.refl _ W).alloc (Nat.le_refl _) (.cells ch0 212))
 obtain ⟨cs,c1,_⟩:=h1.g.blk
 exact ⟨h1.b.setCell (p:=⟨LB,i,none⟩) h.g.new.1 _,h1.sp.other _ _ (h1.sp.ne c1 (by decide)),h1.hd.other _ _ (h1.hd.ne c1 (by decide)),h.g.next hi h.b.size hG⟩
theorem cp_good {S:Sp} (h:(checkP S).2=0) {c:Cp} (hc:c∈S.cs):0≤c.frm∧c.frm<S.ds.length∧0≤c.to∧c.to<S.ds.length∧-12≤c.shift∧c.shift≤12∧0≤c.only∧c.only≤2∧(c.thr=true→c.only=0):=by
 obtain ⟨h1,h2,h3,h4,h5,h6,h7,h8,h9⟩:=checkP_zero h
 obtain ⟨j,hj,rfl⟩:=List.mem_iff_getElem.1 hc
 have hz:=fst0_none.1 h9 j hj
 rw [errC_is hj] at hz
 have hz:=nmE_zero hz
 unfold cpE at hz
 split at hz
 ·rename_i q
  split at hz
  ·rename_i q2
   obtain ⟨z1,z2,z3,z4⟩:=q2
   refine ⟨q.1,q.2.1,q.2.2.1,q.2.2.2,by omega,by omega,z2,z3,fun ht=>?_⟩
   by_cases z:(S.cs[j]).only=0
   ·exact z
   ·exact absurd ⟨ht,z⟩ z4
  ·cases hz
 ·cases hz
theorem takes_first {only:Int} (h0:0≤only) (h2:only≤2) {l:List Int} {k:Int}:k∈takes only l↔∃ j,∃ hj:j<l.length,firstB only l.length j=true∧l[j]=k:=by
 unfold takes firstB
 by_cases e1:only=1
 ·subst e1
  rw [if_pos rfl]
  cases l with
  | nil=>simp
  | cons x l =>
   constructor
   ·intro h
    have:k=x:=by simpa using h
    exact ⟨0,by simp,by simp,this.symm⟩
   ·rintro ⟨j,hj,hb,rfl⟩
    have:j=0:=by simpa using hb
    subst this
    simp
 ·rw [if_neg e1]
  by_cases e2:only=2
  ·subst e2
   rw [if_pos rfl]
   constructor
   ·intro h
    obtain ⟨m,hm,rfl⟩:=List.mem_iff_getElem.1 h
    rw [List.length_drop] at hm
    refine ⟨l.length-1+m,by omega,?_,?_⟩
    ·rw [decide_eq_true (show l.length-1+m+1=l.length by omega)];rfl
    ·rw [List.getElem_drop]
   ·rintro ⟨j,hj,hb,rfl⟩
    have:j+1=l.length:=by simpa using hb
    refine List.mem_iff_getElem.2 ⟨0,by rw [List.length_drop];omega,?_⟩
    rw [List.getElem_drop]
    congr 1
    omega
  ·rw [if_neg e2]
   have e0:only=0:=by omega
   subst e0
   constructor
   ·intro h
    obtain ⟨m,hm,rfl⟩:=List.mem_iff_getElem.1 h
    exact ⟨m,hm,rfl,rfl⟩
   ·rintro ⟨j,hj,_,rfl⟩
    exact List.getElem_mem hj
structure CbI (S:Sp) (f:Th→Int) (c:Nat) (G:Gr):Prop where
 g:ChI S f 1 G
 key:∀ d k,0≤d∧d<(S.ds.length:Int)→k∈playedL f d→G (d,k)≠none
 old:∀ i (hi:i<S.cs.length),(i:Int)∈(onL f 3 S.cs.length).take c→∀ j (hj:j<(playedL f S.cs[i].frm).length),firstB S.cs[i].only (playedL f S.cs[i].frm).length j=true→keyOk S (S.cs[i].to,(playedL f S.cs[i].frm)[j]+S.cs[i].shift)=true→G (S.cs[i].to,(playedL f S.cs[i].frm)[j]+S.cs[i].shift)≠none
structure CbK (S:Sp) (f:Th→Int) (c i k:Nat) (G:Gr):Prop where
 r:CbI S f c G
 suc:∀ (hi:i<S.cs.length) j (hj:j<(playedL f S.cs[i].frm).length),j<k→firstB S.cs[i].only (playedL f S.cs[i].frm).length j=true→keyOk S (S.cs[i].to,(playedL f S.cs[i].frm)[j]+S.cs[i].shift)=true→G (S.cs[i].to,(playedL f S.cs[i].frm)[j]+S.cs[i].shift)≠none
theorem kG_some {f:Th→Int} {n:Nat} {q:Pl} {j:Nat} (h:kG f n 0 q=some j):j=0∧0≤q.1∧q.1<n∧q.2∈playedL f q.1:=by
 unfold kG at h
 split at h
 ·rename_i z
  rcases z with z | ⟨_,z⟩
  ·exact ⟨(Option.some.inj h).symm,z⟩
  ·rw [List.take_zero] at z;cases z
 ·cases h
theorem CbI.start {S:Sp} {f:Th→Int} (hf:OnOk S f):CbI S f 0 (kG f S.ds.length 0):=by
 refine ⟨⟨fun q j h=>?_,fun q j h=>?_,fun q j h=>?_,fun q h=>(kG_some h).2.2.2,fun q j h h1=>?_⟩,fun d k h1 h2=>?_,fun i _ hm=>?_⟩
 ·have hm:=(kG_some h).2.2.2
  have h1:=(mem_playedL.1 hm).2.2
  exact (hf.key q.1 q.2 (by rw [h1];decide)).1
 ·obtain ⟨_,h1,h2,h3⟩:=kG_some h
  exact .key q.1 q.2 ⟨h1,h2⟩ h3
 ·rw [(kG_some h).1];exact Nat.zero_le _
 ·rw [(kG_some h).1] at h1;exact absurd h1 (Nat.lt_irrefl _)
 ·unfold kG
  rw [if_pos (.inl ⟨h1.1,h1.2,h2⟩)]
  simp
 ·rw [List.take_zero] at hm;cases hm
theorem CbI.take {S:Sp} {f:Th→Int} {c i:Nat} {G:Gr} (h:CbI S f c G):CbK S f c i 0 G:=⟨h,fun _ j _ hj=>absurd hj (Nat.not_lt_zero j)⟩
theorem CbK.skip {S:Sp} {f:Th→Int} {c i k:Nat} {G:Gr} (h:CbK S f c i k G) (hi:i<S.cs.length) (hb:firstB S.cs[i].only (playedL f S.cs[i].frm).length k=false):CbK S f c i (k+1) G:=⟨h.r,fun _ j hj hk h1 h2=>by
 by_cases e:j=k
 ·subst e;rw [hb] at h1;cases h1
 ·exact h.suc hi j hj (by omega) h1 h2⟩
theorem CbK.add {S:Sp} {f:Th→Int} {c i k:Nat} {G:Gr} (hc:(checkP S).2=0) (h:CbK S f c i k G) (hi:i<S.cs.length) (hon:f (3,0,(i:Int))=1) (hk:k<(playedL f S.cs[i].frm).length) (hb:firstB S.cs[i].only (playedL f S.cs[i].frm).length k=true):CbK S f c i (k+1) (addG S G (S.cs[i].to,(playedL f S.cs[i].frm)[k]+S.cs[i].shift) 1):=by
 have hle:GLe G (addG S G (S.cs[i].to,(playedL f S.cs[i].frm)[k]+S.cs[i].shift) 1):=(GLe.refl G).add
 obtain ⟨_,_,_,_,_,_,g1,g2,_⟩:=cp_good hc (List.getElem_mem hi)
 refine ⟨⟨⟨fun q j e=>?_,fun q j e=>?_,fun q j e=>?_,fun q e=>?_,fun q j e h0 hj=>by omega⟩,fun d x h1 h2=>hle.some (h.r.key d x h1 h2),fun m hm hl j hj h1 h2=>hle.some (h.r.old m hm hl j hj h1 h2)⟩,fun _ j hj hjk h1 h2=>?_⟩
 ·rcases addG_new e with e | ⟨_,rfl,e,_⟩
  ·exact h.r.g.ok q j e
  ·exact e
 ·rcases addG_new e with e | ⟨_,rfl,e,_⟩
  ·exact h.r.g.act q j e
  ·exact .cou i hi hon _ ((takes_first g1 g2).2 ⟨k,hk,hb,rfl⟩) e
 ·rcases addG_new e with e | ⟨_,_,_,rfl⟩
  ·exact h.r.g.le q j e
  ·exact Nat.le_refl _
 ·rcases addG_new e with e | ⟨_,_,_,e⟩
  ·exact h.r.g.zero q e
  ·omega
 ·by_cases e:j=k
  ·subst e;exact addG_at h2
  ·exact hle.some (h.suc hi j hj (by omega) h1 h2)
theorem CbK.end {S:Sp} {f:Th→Int} {c i:Nat} {G:Gr} (hi:i<S.cs.length) (h:CbK S f c i (playedL f S.cs[i].frm).length G) (hc:c<(onL f 3 S.cs.length).length) (he:(onL f 3 S.cs.length)[c]=(i:Int)):CbI S f (c+1) G:=⟨h.r.g,h.r.key,fun m hm hl=>by
 rw [List.take_succ_eq_append_getElem hc,List.mem_append,List.mem_singleton,he] at hl
 rcases hl with hl | hl
 ·exact h.r.old m hm hl
 ·have:m=i:=by omega
  subst this
  exact fun j hj=>h.suc hm j hj hj⟩
theorem CbI.end {S:Sp} {f:Th→Int} {G:Gr} (hc:(checkP S).2=0) (h:CbI S f (onL f 3 S.cs.length).length G):ChH S f G:=⟨h.key,fun i hi hon k hk hok=>by
 obtain ⟨_,_,_,_,_,_,g1,g2,_⟩:=cp_good hc (List.getElem_mem hi)
 obtain ⟨j,hj,hb,rfl⟩:=(takes_first g1 g2).1 hk
 refine h.old i hi ?_ j hj hb hok
 rw [List.take_length]
 exact mem_onL.2 ⟨by omega,by omega,hon⟩⟩
end Go.Proofs.YteflhbfgpknabaaGreatDoor
