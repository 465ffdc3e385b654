/-
  A part of the proof: AJ7.
-/
import Derived.Test.YteflhbfgpknabaaGreatDoorL17
import Derived.Test.YteflhbfgpknabaaGreatDoorL18
import Derived.Test.YteflhbfgpknabaaGreatDoorL09
set_option maxRecDepth 100000
set_option maxHeartbeats 12800000
namespace Go.Proofs.YteflhbfgpknabaaGreatDoor
open Go.Lib (hid)
open Go.RowKit
def dbC (d:Pp × Int):List Value:=[.int .i64 d.1.1,.int .i64 d.1.2,.int .i64 d.2]
def dbCs (D:List (Pp × Int)):List Value:=(D.map dbC).flatten
theorem db_info:(Tryz.prog.info? 178).map (fun i=>(i.zero,i.size,i.bytes))=some (some (.agg #[.int .i64 0,.int .i64 0,.int .i64 0]),3,24):=by kernel_rfl
theorem dbs_step {W:World} {base:Nat} {t:TypeId} {v:Value} {l:List (Pp × Int)} {n:Nat} {p:Pp} {k:Int} (h:W.ownsRow base t 3 v n (dbCs l++[.int .i64 p.1,.int .i64 p.2,.int .i64 k])) (hn:n=l.length+1):W.ownsRow base t 3 v (l++[(p,k)]).length (dbCs (l++[(p,k)])):=by
 have e:dbCs (l++[(p,k)])=dbCs l++[.int .i64 p.1,.int .i64 p.2,.int .i64 k]:=by simp [dbCs,dbC]
 rw [e,List.length_append,List.length_singleton,← hn]
 exact h
theorem ARd.of_dbs {W:World} {base:Nat} {t:TypeId} {v:Value} {l:List (Pp × Int)} (h:W.ownsRow base t 3 v l.length (dbCs l)):ARd W v 3 (l.map dbC) :=
 ARd.of_row (by intro r hr;obtain ⟨p,_,rfl⟩:=List.mem_map.1 hr;rfl) (by rw [List.length_map];exact h)
def DbR (m:List Pp) (w:World) (e:Ending) (w':World):Prop:=∃ v D,e = .returned v∧w'.ownsRow w.heap.size 178 3 v D.length (dbCs D)∧D.map (·.1)=m∧Below w.heap.size w w'
structure SuI (v1 v2 v3 v4 vk vs vc va:Value) (fp:Nat→Value) (S:Sp) (f:Th→Int) (base LB:Nat) (rb:Nat→Nat) (G:Gr) (X:Nat) (W:World):Prop where
 sp:Blk W X 27 #[v1,v2,v3,v4]
 hd:Blk W (X+1) 32 #[vk,vs,vc]
 rd:SpRd W v1 v2 v3 v4 fp S
 hr:HdRd W vk vs vc S f
 g:GrI base S.ds.length S.ds.length LB rb G W
 al:ARd W va 2 ((allFrom 0 S.rs).map ppC)
theorem sounds_any (v1 v2 v3 v4:Value) (S:Sp) (hc:(checkP S).2=0) (fp:Nat→Value) (vk vs vc:Value) (f:Th→Int) (B:(Th→Int)→Pp→Bool) (hB:SndIs S B) (base LB:Nat) (rb:Nat→Nat) (G:Gr) (hG:∀ q,G q≠none↔Acts S f q) (w:World) (hsp:SpRd w v1 v2 v3 v4 fp S) (hh:HdRd w vk vs vc S f) (hg:GrI base S.ds.length S.ds.length LB rb G w) :
  Calls Tryz.prog 120 #[.agg #[v1,v2,v3,v4],.agg #[vk,vs,vc],.slice (some ⟨LB,0,none⟩) S.ds.length S.ds.length] w (DbR (sndL S B f) w):=by
 have hsg:=spGood hc
 obtain ⟨i0,hi0,hz0,hz1,hz2⟩:=info_parts db_info
 obtain ⟨⟨a1,c1,rfl⟩,_,⟨a3,c3,rfl⟩,_⟩:=hsp.forms
 obtain ⟨_,⟨as',cs',rfl⟩,_⟩:=hh.forms
 have b0:=(Blk.new w 27 #[.slice a1 S.ds.length c1,v2,.slice a3 S.ss.length c3,v4]).alloc (.cells #[vk,.slice as' (onL f 2 S.ss.length).length cs',vc] 32)
 have b1:=Blk.new (w.alloc (.cells #[.slice a1 S.ds.length c1,v2,.slice a3 S.ss.length c3,v4] 27)) 32 #[vk,.slice as' (onL f 2 S.ss.length).length cs',vc]
 rw [World.size_alloc] at b1
 have hb:=below_two w (.cells #[.slice a1 S.ds.length c1,v2,.slice a3 S.ss.length c3,v4] 27) (.cells #[vk,.slice as' (onL f 2 S.ss.length).length cs',vc] 32)
 have hal:=allFrom_len hsg.r 0
 have hal2:(allFrom 0 S.rs).length≤4000:=by have:=hsg.rs;omega
 have HALL:=hid (rall_any _ v2 _ v4 S _ fp (hsp.later hb) hsg.rs hsg.r)
 have HSU:=hid (fun (va:Value) (W1:World) (h1:Below ((w.alloc (.cells #[.slice a1 S.ds.length c1,v2,.slice a3 S.ss.length c3,v4] 27)).alloc (.cells #[vk,.slice as' (onL f 2 S.ss.length).length cs',vc] 32)).heap.size ((w.alloc (.cells #[.slice a1 S.ds.length c1,v2,.slice a3 S.ss.length c3,v4] 27)).alloc (.cells #[vk,.slice as' (onL f 2 S.ss.length).length cs',vc] 32)) W1) (ha:ARd W1 va 2 ((allFrom 0 S.rs).map ppC)) =>
  (show SuI (.slice a1 S.ds.length c1) v2 (.slice a3 S.ss.length c3) v4 vk (.slice as' (onL f 2 S.ss.length).length cs') vc va fp S f base LB rb G w.heap.size W1∧Below w.heap.size w W1 from
   ⟨⟨b0.below h1,b1.below h1,(hsp.later hb).later h1,(hh.later hb).later h1,(hg.low hb).low h1,ha⟩,below_step hb h1⟩))
 have s0:=b0.four
 obtain ⟨y0,y1,y2,y3⟩:=s0
 have HSG:=hid hsg
 have HGA:=hid hG
 have HBB:=hid hB
 have hds:=hsg.ds
 have hss:=hsg.ss
 clear hsg hsp hh hg hG hB b0 b1 hb hal
 go_enter Tryz.func120,Tryz.ntmps120
 go_wp2_with fail
 refine (HALL.out).mono ?_
 rintro e W1 ⟨va,rfl,hown,hb1⟩
 obtain ⟨aa,ca,eva⟩:=(ARd.of_pps hown).form
 rw [List.length_map] at eva
 subst eva
 have hsu:=HSU.out _ _ hb1 (ARd.of_pps hown)
 have HS:=hid hsu.1
 have HBW:=hid hsu.2
 have HR0:=hid (show W1.ownsRow W1.heap.size 178 3 (.slice none 0 0) ([]:List (Pp × Int)).length (dbCs []) from World.ownsRow_nil _ _ _ _)
 have HB0:=hid (Below.refl W1.heap.size W1)
 clear HALL HSU hsu hown hb1 y0 y1 y2 y3
 go_wp2
 go_loopw [8,9] (fun v x wr=>∃ (i:Nat) (D:List (Pp × Int)),i≤(allFrom 0 S.rs).length∧x = .int .i64 i∧Hid (wr.ownsRow W1.heap.size 178 3 v D.length (dbCs D))∧Hid (D.map (·.1)=((allFrom 0 S.rs).take i).filter (B f))∧Hid (Below W1.heap.size W1 wr)) (fun _ x _=>(allFrom 0 S.rs).length-(intOf x).toNat)
 case atStart=>exact ⟨0,[],Nat.zero_le _,rfl,HR0,hid (by rw [List.take_zero];rfl),HB0⟩
 clear HR0 HB0
 obtain ⟨i,D,hi,rfl,hrow,hD,hB⟩:=hrel
 by_cases hin:i<(allFrom 0 S.rs).length
 ·have hi2:(i:Int)<((allFrom 0 S.rs).length:Int):=by omega
  obtain ⟨ba,oa,c',ev,hba,qa0,qa1⟩:=HS.out.al.ppAt i hin
  cases ev
  have HYES:=hid (fun (h:B f (allFrom 0 S.rs)[i]=true)=>filter_take_yes (q:=B f) hin h)
  have HNO:=hid (fun (h:B f (allFrom 0 S.rs)[i]=false)=>filter_take_no (q:=B f) hin h)
  obtain ⟨p,hp⟩:∃ p,(allFrom 0 S.rs)[i]=p:=⟨_,rfl⟩
  rw [hp] at qa0 qa1 HYES HNO
  have HQ0:=hid qa0
  have HQ1:=hid qa1
  have hDl:D.length≤i:=by
   have h1:=congrArg List.length hD.out
   have h2:=List.length_filter_le (B f) ((allFrom 0 S.rs).take i)
   rw [List.length_map] at h1
   rw [List.length_take] at h2
   omega
  clear hp qa0 qa1
  go_wp2
  go_loopw [10,11] (fun nv x wr=>∃ (k n:Nat),k≤(onL f 2 S.ss.length).length∧nv = .int .i64 n∧x = .int .i64 k∧Hid (SdK S f G p k n)∧Hid (wr.ownsRow W1.heap.size 178 3 u8 D.length (dbCs D))∧Hid (Below W1.heap.size W1 wr)) (fun _ x _=>(onL f 2 S.ss.length).length-(intOf x).toNat)
  case atStart=>exact ⟨0,0,Nat.zero_le _,rfl,rfl,hid (SdK.start S f G p),hrow,hB⟩
  clear hrow hB
  obtain ⟨k,n,hkn,rfl,rfl,hK,hrow,hB⟩:=hrel
  have hls:=len_onL f 2 S.ss.length
  have hd1:wr.cell? ⟨w.heap.size+1,1,none⟩=some (.slice as' (onL f 2 S.ss.length).length cs'):=(HS.out.hd.below hB.out).cell 1
  by_cases hkl:k<(onL f 2 S.ss.length).length
  ·have hk2:(k:Int)<((onL f 2 S.ss.length).length:Int):=by omega
   obtain ⟨bs,os,c',ev,hbs,qs0⟩:=HS.out.hr.stops.intAt k hkl
   cases ev
   have hm:=mem_onL.1 (List.getElem_mem hkl)
   obtain ⟨x,hx⟩:∃ x,(onL f 2 S.ss.length)[k]=x:=⟨_,rfl⟩
   rw [hx] at qs0 hm
   obtain ⟨hx0,hx1,_⟩:=hm
   obtain ⟨j,rfl⟩:=Int.eq_ofNat_of_zero_le hx0
   have hj:j<S.ss.length:=by omega
   obtain ⟨hdv0,hdv1,_,hpl⟩:=HSG.out.s _ (List.getElem_mem hj)
   have HPL:=hid (fun (y:Int) (hy : -1000≤y∧y≤1000) (W:World) (hb:Below W1.heap.size W1 W)=>rplays_any S.ss[j] (fp j) y p W ((HS.out.rd.p j hj).later hb) (by omega) (fun q hq=>by obtain ⟨_,_,_,h1,h2,_⟩:=HSG.out.part (List.getElem_mem hj) hq;exact ⟨h1,h2⟩) hy)
   have HHIT:=hid (fun (y:Int)=>hitG_at (p:=p) (G:=G) (f:=f) (y:=y) hkl hx hj)
   obtain ⟨b,o,c',ev,hb3,r0,r1,r2,r3,r4⟩:=HS.out.rd.sAt j hj
   cases ev
   obtain ⟨ap,cq,hpv⟩:=(HS.out.rd.p j hj).form
   rw [List.length_map] at hpv
   obtain ⟨np,hnp⟩:∃ x,S.ss[j].parts.length=x:=⟨_,rfl⟩
   rw [hnp] at hpv
   obtain ⟨X,hX⟩:∃ X,S.ss[j]=X:=⟨_,rfl⟩
   rw [hX] at HPL HHIT r0 r1 r2 r3 hdv0 hdv1 hpl
   obtain ⟨nm,hnm⟩:∃ x,X.name=x:=⟨_,rfl⟩
   obtain ⟨dI,hdI⟩:∃ x,X.div=x:=⟨_,rfl⟩
   obtain ⟨nu,hnu⟩:∃ x,X.num=x:=⟨_,rfl⟩
   obtain ⟨de,hde⟩:∃ x,X.den=x:=⟨_,rfl⟩
   rw [hnm] at r0 HPL
   rw [hdI] at r1 HPL HHIT hdv0 hdv1
   rw [hnu] at r2 HPL
   rw [hde] at r3 HPL
   rw [hpv] at r4 HPL
   obtain ⟨dv,rfl⟩:=Int.eq_ofNat_of_zero_le hdv0
   have hdl:dv<S.ds.length:=by omega
   have hdok:=dv_ok (HSG.out.d _ (List.getElem_mem hdl))
   have HKI:=hid (fun (y:Int)=>keyIn_at hdl y)
   obtain ⟨bd,od,c',ev,hbd,d0,d1,d2⟩:=HS.out.rd.dAt dv hdl
   cases ev
   obtain ⟨dn,hdn⟩:∃ x,S.ds[dv].name=x:=⟨_,rfl⟩
   obtain ⟨lo,hlo⟩:∃ x,S.ds[dv].lo=x:=⟨_,rfl⟩
   obtain ⟨hi,hhi⟩:∃ x,S.ds[dv].hi=x:=⟨_,rfl⟩
   rw [hdn] at d0
   rw [hlo] at d1 hdok HKI
   rw [hhi] at d2 hdok HKI
   obtain ⟨e0,e1,e2,e3⟩:=hdok
   have HTK:=hid (hK.out.take (lo:=lo) (fun y hy=>by rw [HHIT.out,HKI.out,decide_eq_false (by omega),Bool.and_false]))
   have q0:=(hB.out.cell hbs).trans qs0
   have s2:wr.cell? ⟨w.heap.size,2,none⟩=some (.slice (some ⟨b,o,none⟩) S.ss.length c3):=(HS.out.sp.below hB.out).cell 2
   replace r0:=(hB.out.cell hb3).trans r0
   replace r1:=(hB.out.cell hb3).trans r1
   replace r2:=(hB.out.cell hb3).trans r2
   replace r3:=(hB.out.cell hb3).trans r3
   replace r4:=(hB.out.cell hb3).trans r4
   have y0:=cell_alloc hd1
   have y1:=cell_alloc q0
   have y2:=cell_alloc s2
   have y3:=cell_alloc r0
   have y4:=cell_alloc r1
   have y5:=cell_alloc r2
   have y6:=cell_alloc r3
   have y7:=cell_alloc r4
   clear hx hX hnm hdI hnu hde hpv hnp hdn hlo hhi hdv0 hx0 hx1 qs0 hK
   go_wp2_with fail
   go_region
   have hb30:Below wr.heap.size wr ((wr.alloc (.cells #[.string nm,.int .i64 dv,.int .i64 nu,.int .i64 de,.slice ap np cq] 66)).drew):=((Below.refl _ wr).alloc (Nat.le_refl _) _).drew
   have HB3:=hid (below_step hB.out hb30)
   have HR3:=hid (row_later hrow.out hb30)
   have HX3:=hid ((Blk.new wr 66 #[.string nm,.int .i64 dv,.int .i64 nu,.int .i64 de,.slice ap np cq]).below ((Below.refl _ _).drew))
   obtain ⟨P,hP⟩:∃ P,wr.heap.size=P:=⟨_,rfl⟩
   rw [hP] at HX3 ⊢
   generalize (wr.alloc (.cells #[.string nm,.int .i64 dv,.int .i64 nu,.int .i64 de,.slice ap np cq] 66)).drew=W3 at *
   clear hb30 hP y0 y1 y2 y3 y4 y5 y6 y7 q0 s2 r0 r1 r2 r3 r4 hd1 hrow hB
   have z1:W3.cell? ⟨P,1,none⟩=some (.int .i64 dv):=HX3.out.cell 1
   have s0:W3.cell? ⟨w.heap.size,0,none⟩=some (.slice (some ⟨bd,od,none⟩) S.ds.length c1):=(HS.out.sp.below HB3.out).cell 0
   replace d0:=(HB3.out.cell hbd).trans d0
   replace d1:=(HB3.out.cell hbd).trans d1
   replace d2:=(HB3.out.cell hbd).trans d2
   go_upto_region 12 with fail
   have hb40:Below W3.heap.size W3 (W3.alloc (.cells #[.string dn,.int .i64 lo,.int .i64 hi] 109)):=(Below.refl _ W3).alloc (Nat.le_refl _) _
   have HB4:=hid (below_step HB3.out hb40)
   have HR4:=hid (row_later HR3.out hb40)
   have HX4:=hid (HX3.out.below hb40)
   have HD4:=hid (Blk.new W3 109 #[.string dn,.int .i64 lo,.int .i64 hi])
   obtain ⟨P2,hP2⟩:∃ P2,W3.heap.size=P2:=⟨_,rfl⟩
   rw [hP2] at HD4 ⊢
   generalize W3.alloc (.cells #[.string dn,.int .i64 lo,.int .i64 hi] 109)=W4 at *
   clear hb40 hP2 z1 s0 d0 d1 d2 HB3 HR3 HX3
   have z1:W4.cell? ⟨P2,1,none⟩=some (.int .i64 lo):=HD4.out.cell 1
   go_wp2
   clear z1
   go_loopw [10,14] (fun nv x wr=>∃ (y:Int) (n:Nat),nv = .int .i64 n∧x = .int .i64 y∧y≤hi+1∧Hid (SdY S f G p k lo y n)∧Hid (wr.ownsRow W1.heap.size 178 3 u8 D.length (dbCs D))∧Hid (Below W4.heap.size W4 wr)) (fun _ x _=>(hi+1-intOf x).toNat)
   case atStart=>exact ⟨lo,n,rfl,rfl,by omega,HTK,HR4,hid (Below.refl _ _)⟩
   clear HTK HR4
   obtain ⟨y,n,rfl,rfl,hyh,hY,hrow,hB⟩:=hrel
   have x2:wr.cell? ⟨P2,2,none⟩=some (.int .i64 hi):=(HD4.out.below hB.out).cell 2
   by_cases hyl:y≤hi
   ·have hge:=hY.out.ge
    obtain ⟨yn,rfl⟩:=Int.eq_ofNat_of_zero_le (show 0≤y by omega)
    have hyn:yn<128:=by omega
    have hyn2:(yn:Int)<128:=by omega
    have hdl2:(dv:Int)<(S.ds.length:Int):=by omega
    have HB1:=hid (below_step HB4.out hB.out)
    have hG4:=HS.out.g.low HB1.out
    have g0:=hG4.rowCell hdl
    obtain ⟨_,_,_,t0,_⟩:=hG4.at' hdl hyn
    obtain ⟨tb,htb⟩:∃ b,(G ((dv:Int),(yn:Int))).isSome=b:=⟨_,rfl⟩
    rw [htb] at t0
    have HHT:=hid (HHIT.out (yn:Int))
    rw [HKI.out,htb,decide_eq_true (show lo≤(yn:Int)∧(yn:Int)≤hi by omega),Bool.and_true] at HHT
    have z1:wr.cell? ⟨P,1,none⟩=some (.int .i64 dv):=(HX4.out.below hB.out).cell 1
    have hnb:=hY.out.le
    clear hG4 htb
    cases tb with
    | false =>
     have HN:=hid (hY.out.skip (by rw [HHT.out];rfl))
     go_wp2_with fail
     go_quiet (fail)
     have HRN:=hid (row_later hrow.out (below_drewN (Below.refl _ wr) nq))
     have HBN:=hid (below_drewN hB.out nq)
     go_wp2
     go_roundw
     case rel=>exact ⟨(yn:Int)+1,n,rfl,by go_num,by omega,HN,HRN,HBN⟩
     case measure=>simp [intOf];omega
    | true =>
     obtain ⟨bb,hbb⟩:∃ b,playsB X (yn:Int) p=b:=⟨_,rfl⟩
     have z0:wr.cell? ⟨P,0,none⟩=some (.string nm):=(HX4.out.below hB.out).cell 0
     have z2:wr.cell? ⟨P,2,none⟩=some (.int .i64 nu):=(HX4.out.below hB.out).cell 2
     have z3:wr.cell? ⟨P,3,none⟩=some (.int .i64 de):=(HX4.out.below hB.out).cell 3
     have z4:wr.cell? ⟨P,4,none⟩=some (.slice ap np cq):=(HX4.out.below hB.out).cell 4
     have q0:=(HB1.out.cell hba).trans HQ0.out
     have q1:=(HB1.out.cell hba).trans HQ1.out
     have HCA:=hid (fun (w':World) (h:Below wr.heap.size wr w')=>HPL.out (yn:Int) (by omega) w' (below_step HB1.out h))
     rw [hbb] at HHT HCA
     have hdr:=hold9 (W0:=wr) ⟨Below.refl _ wr,g0,t0,z0,z1,z2,z3,z4,q0,q1⟩ ((Below.refl _ wr).drew)
     clear hbb
     go_upto_region 15 with fail
     go_cut [70] from 47 to 72 (fun x70 wx=>x70 = .bool bb∧Hid (Below wr.heap.size wr wx))
     case first =>
      go_wp2_with fail
      go_region_held3 (fun w'=>Below wr.heap.size wr w'∧w'.cell? ⟨LB,dv,none⟩=some (.slice (some ⟨rb dv,0,none⟩) 128 128)∧w'.cell? ⟨rb dv,yn * 4,none⟩=some (.bool true)∧w'.cell? ⟨P,0,none⟩=some (.string nm)∧w'.cell? ⟨P,1,none⟩=some (.int .i64 dv)∧w'.cell? ⟨P,2,none⟩=some (.int .i64 nu)∧w'.cell? ⟨P,3,none⟩=some (.int .i64 de)∧w'.cell? ⟨P,4,none⟩=some (.slice ap np cq)∧w'.cell? ⟨ba,oa+i * 2,none⟩=some (.int .i64 p.1)∧w'.cell? ⟨ba,oa+i * 2+1,none⟩=some (.int .i64 p.2)) (first | exact hdr | assumption) (first | (go_at_call 156;(with_reducible refine (HCA.out _ hdr.1).mono ?_);rintro e w2 ⟨rfl,hb2⟩;have hn:=hold9 hdr hb2;clear hb2))
      go_wp2
      go_meet
      exact ⟨rfl,hid hn.1⟩
     case rest =>
     obtain ⟨rfl,hn⟩:=hcut
     rename World=>w2
     have HRN:=hid (row_later hrow.out hn.out)
     have HBN:=hid (below_step hB.out hn.out)
     clear hdr hn HCA
     cases bb with
     | false =>
      have HN:=hid (hY.out.skip (by rw [HHT.out];rfl))
      go_wp2
      go_roundw
      case rel=>exact ⟨(yn:Int)+1,n,rfl,by go_num,by omega,HN,HRN,HBN⟩
      case measure=>simp [intOf];omega
     | true =>
      have HN:=hid (hY.out.hit (by rw [HHT.out];rfl))
      go_wp2
      go_roundw
      case rel=>exact ⟨(yn:Int)+1,n+1,by go_num,by go_num,by omega,HN,HRN,HBN⟩
      case measure=>simp [intOf];omega
   ·have hyl2:¬ y≤hi:=hyl
    have HE:=hid (hY.out.end (by omega) (fun u hu=>by rw [HHIT.out,HKI.out,decide_eq_false (by omega),Bool.and_false]))
    have HB1:=hid (below_step HB4.out hB.out)
    clear hY
    go_wp2
    go_roundw
    case rel=>exact ⟨k+1,n,by omega,rfl,by go_num,HE,hrow,HB1⟩
    case measure=>simp [intOf];omega
  ·have hk2:¬ (k:Int)<((onL f 2 S.ss.length).length:Int):=by omega
   have hke:k=(onL f 2 S.ss.length).length:=by omega
   have hKl:=hK.out.le
   have hpos:=(HBB.out f p).symm
   have hall:=SdK.all HSG.out (hke ▸ hK.out) HGA.out
   by_cases hn0:0<n
   ·have hn2:(0:Int)<(n:Int):=by omega
    have HY:=hid (HYES.out ((HBB.out f p).2 (hall.1 hn0)))
    have q0:=(hB.out.cell hba).trans HQ0.out
    have q1:=(hB.out.cell hba).trans HQ1.out
    have hsz:=hB.out.size
    clear hke hpos hall HYES HNO hkn
    go_wp2_with (at_builtin;(refine wpList_append_lies _ rfl _ _ 173 rfl W1.heap.size 178 i0 _ 3 24 Tryz.underlying173 hi0 hz0 hz1 hz2 rfl (by omega) _ _ _ rfl (hrow.out.alloc _) ⟨wr.heap.size,0,none⟩ 1 1 [.int .i64 p.1,.int .i64 p.2,.int .i64 n] rfl rfl (World.news_of_block (cs:=#[.int .i64 p.1,.int .i64 p.2,.int .i64 n]) (t:=178) (fr:=(0,0)) (heap_alloc_new wr _)) (by simp [Value.oneCell']) (by omega) (by unfold maxLen;omega) (by omega) (by simp;omega) (wr.heap.size+1) (by simp) ?_);intro gg cap w3 hown3 hgrow hat3 hlt3)
    have HP:=hid (dbs_step (l:=D) (p:=p) (k:=(n:Int)) hown3 rfl)
    have HB3:=hid (push_low hB.out hrow.out hgrow)
    have HDN:=hid (show (D++[(p,(n:Int))]).map (·.1)=((allFrom 0 S.rs).take (i+1)).filter (B f) by rw [HY.out,List.map_append,hD.out];rfl)
    clear hown3 hgrow hat3 hlt3
    go_wp2
    go_roundw
    case rel=>exact ⟨i+1,_,by omega,by go_num,by have:=HP.out;rw [List.length_append,List.length_singleton] at this ⊢;exact hid this,HDN,HB3⟩
    case measure=>simp [intOf];omega
   ·have hn2:¬ (0:Int)<(n:Int):=by omega
    have HN:=hid (HNO.out (by
     cases e:B f p with
     | false=>rfl
     | true=>exact absurd (hall.2 ((HBB.out f p).1 e)) hn0))
    have HDN:=hid (show D.map (·.1)=((allFrom 0 S.rs).take (i+1)).filter (B f) by rw [HN.out];exact hD.out)
    clear hke hpos hall HYES HNO hkn
    go_wp2
    go_roundw
    case rel=>exact ⟨i+1,D,by omega,by go_num,hrow,HDN,hB⟩
    case measure=>simp [intOf];omega
 ·have hi2:¬ (i:Int)<((allFrom 0 S.rs).length:Int):=by omega
  have hie:i=(allFrom 0 S.rs).length:=by omega
  have HDE:=hid (show D.map (·.1)=sndL S B f by have:=hD.out;rw [hie,List.take_length] at this;exact this)
  clear hie
  go_wp2
  go_ret
  exact ⟨_,D,rfl,row_base hrow.out HBW.out.size,HDE.out,below_step HBW.out hB.out⟩
end Go.Proofs.YteflhbfgpknabaaGreatDoor
