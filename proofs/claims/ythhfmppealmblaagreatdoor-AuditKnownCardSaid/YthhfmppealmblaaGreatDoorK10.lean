/-
  A part of the proof: AL5.
-/
import Derived.Test.YthhfmppealmblaaGreatDoorK09
namespace Go.Proofs.YthhfmppealmblaaGreatDoor
open Go.RowKit
set_option maxRecDepth 100000 in
set_option maxHeartbeats 12800000 in
theorem acting_any (v1 v2 v3 v4:Value) (S:Sp) (hc:(checkP S).2=0) (fp:Nat→Value) (PB B:Nat) (f:Th→Int) (t:Int) (hf:OnOk S f) (w:World) (hsp:SpRd w v1 v2 v3 v4 fp S) (hpb:Blk w PB 27 #[v1,v2,v3,v4]) (hpx:PlX f t PB w B) :
  Calls Tryz.prog 90 #[.pointer (some ⟨B,0,none⟩)] w (ActE S f w):=by
 have hsg:=spGood hc
 have hds:=hsg.ds
 have hcs:=hsg.cs
 obtain ⟨⟨a1,c1,rfl⟩,_,_,⟨a4,c4,rfl⟩⟩:=hsp.forms
 obtain ⟨j0,hj0,jz0,jz1,jz2⟩:=info_parts int64_info
 have hmm:=@run_makeMap Tryz.prog
 have hmk:=make_ints S.ds.length (by omega)
 have HSG:=Lib.hid hsg
 have HC:=Lib.hid hc
 have HF:=Lib.hid hf
 have HSP:=Lib.hid hsp
 have HPB:=Lib.hid hpb
 have HPX:=Lib.hid hpx
 have HAD:=Lib.hid (fun (d:Nat) (hd:d<S.ds.length) (key:Int) (m q:List Pl) (hq:q.length≤1000) (W:World) (h:AcM w B m q W)=>actAdd_any (.slice a1 S.ds.length c1) v2 v3 (.slice a4 S.cs.length c4) S fp PB B f t w hsp hpb hpx d hd key m q hq W h)
 clear hsg hc hf hsp hpb hpx
 go_enter Tryz.func90,Tryz.ntmps90
 go_upto_region 4 with fail
 have hm0:=AcM.start w B
 obtain ⟨n,hn⟩:∃ n,S.ds.length=n:=⟨_,rfl⟩
 rw [hn] at hmk hds
 have HN:=Lib.hid hn
 have hsz0:((((w.alloc (.cells #[.pointer (some ⟨B,0,none⟩)] 130)).alloc (.map #[] 0)).alloc (.cells #[.map (some (w.heap.size+1))] 178)).alloc (.cells #[.slice none 0 0] 230)).heap.size=w.heap.size+4:=by simp
 generalize (((w.alloc (.cells #[.pointer (some ⟨B,0,none⟩)] 130)).alloc (.map #[] 0)).alloc (.cells #[.map (some (w.heap.size+1))] 178)).alloc (.cells #[.slice none 0 0] 230)=W0 at *
 have x1:W0.cell? ⟨w.heap.size,0,none⟩=some (.pointer (some ⟨B,0,none⟩)):=hm0.x1.cell 0
 have p0:W0.cell? ⟨B,0,none⟩=some (.pointer (some ⟨PB,0,none⟩)):=(HPX.out.below hm0.b).sp
 have s0:W0.cell? ⟨PB,0,none⟩=some (.slice a1 n c1):=by
  have:=(HPB.out.below hm0.b).cell 0
  rw [hn] at this
  exact this
 have HSZ0:=Lib.hid hsz0
 clear hsz0 hn
 go_upto_region 5 with fail
 have hb1:Below W0.heap.size W0 (W0.alloc (.cells (madeCells #[.slice none 0 0] n) 68)):=(Below.refl _ _).alloc (Nat.le_refl _) _
 have HM1:=Lib.hid (hm0.low hb1)
 have HR1:=Lib.hid (show RwsI w.heap.size n W0.heap.size (fun _ => .slice none 0 0) (rowG f 0 0) (W0.alloc (.cells (madeCells #[.slice none 0 0] n) 68)) by
  rw [rowG_zero]
  exact RwsI.start (Blk.new W0 68 _) (by rw [size_madeCells]) (fun d hd=>by have:=made_get n hd;rwa [Nat.mul_one] at this) (by rw [HSZ0.out];omega))
 obtain ⟨KB,hKB⟩:∃ KB,W0.heap.size=KB:=⟨_,rfl⟩
 rw [hKB] at HR1 ⊢
 have hkb:w.heap.size≤KB:=by rw [← hKB,HSZ0.out];omega
 generalize W0.alloc (.cells (madeCells #[.slice none 0 0] n) 68)=W1 at *
 have HA1:=Lib.hid (AcA.start S f)
 clear hb1 hm0 x1 p0 s0 hKB HSZ0 hmk hmm
 go_wp2
 go_loopw [31] (fun x wr=>∃ (d:Nat) (vals:Nat→Value) (m q:List Pl),d≤n∧x = .int .i64 d∧q.length≤m.length∧RowKit.Hid (AcM w B m q wr)∧RowKit.Hid (RwsI w.heap.size n KB vals (rowG f d 0) wr)∧RowKit.Hid (AcA S f d 0 m q)) (fun x _=>n-(intOf x).toNat)
 case atStart=>exact ⟨0,_,[],[],Nat.zero_le _,rfl,Nat.le_refl _,HM1,HR1,HA1⟩
 clear HM1 HR1 HA1
 obtain ⟨d,vals,m,q,hd,rfl,hql,hI,hR,hA⟩:=hrel
 by_cases hdn:d<n
 ·have hd2:(d:Int)<(n:Int):=by omega
  have hd6:(d:Int)<6:=by omega
  have x1:wr.cell? ⟨w.heap.size,0,none⟩=some (.pointer (some ⟨B,0,none⟩)):=hI.out.x1.cell 0
  have hrg:=(HPX.out.below hI.out.b).keys (d:=d) (by omega)
  have hKV:=fun (k:Nat) (hk:k<128)=>keysV_at f d hk
  have hKL:=keysV_len f d
  obtain ⟨KL,hKL0⟩:∃ KL,keysV f d=KL:=⟨_,rfl⟩
  rw [hKL0] at hrg hKV hKL
  have hinf:(Tryz.prog.info? 113).map (·.size)=some KL.length:=by rw [hKL];exact keys_info
  have HKV:=Lib.hid hKV
  clear hKL0 hKV
  go_upto_region 9 with (refine wpList_load_mid rfl 113 _ rfl B (1+d * 128) rfl KL _ hrg Tryz.underlying113 rfl hinf ?_)
  obtain ⟨KA,hKA⟩:∃ KA,KL.toArray=KA:=⟨_,rfl⟩
  have HKA:=Lib.hid (show ∀ k:Nat,k<128→KA[k]?=some (.bool (decide (f (1,(d:Int),(k:Int))=1))) from fun k hk=>by rw [← hKA,List.getElem?_toArray];exact HKV.out k hk)
  have hKS:KA.size=128:=by rw [← hKA,List.size_toArray];exact hKL
  rw [hKA]
  clear hKA HKV hKL hrg hinf x1
  go_loopw [40] (fun x wr=>∃ (k:Nat) (vals:Nat→Value) (m q:List Pl),k≤128∧x = .int .i64 k∧q.length≤m.length∧RowKit.Hid (AcM w B m q wr)∧RowKit.Hid (RwsI w.heap.size n KB vals (rowG f d k) wr)∧RowKit.Hid (AcA S f d k m q)) (fun x _=>128-(intOf x).toNat)
  case atStart=>exact ⟨0,vals,m,q,by omega,rfl,hql,hI,hR,hA⟩
  clear hI hR hA hql
  obtain ⟨k,vals,m,q,hk,rfl,hql,hI,hR,hA⟩:=hrel
  by_cases hk1:k<128
  ·have hk3:(k:Int)<128:=by omega
   have hka:=HKA.out k hk1
   by_cases hfk:f (1,(d:Int),(k:Int))=1
   ·rw [decide_eq_true hfk] at hka
    have hix:=run_keyAt KA k hk1 true hka wr
    have hml:=hA.out.i.len HSG.out.ds HSG.out.d
    have HGY:=Lib.hid (rowG_yes hfk)
    have HAN:=Lib.hid (hA.out.add HF.out (by rw [HN.out];exact hdn) hk1 hfk)
    have HQL:=Lib.hid (addQ_len (S:=S) hql ((d:Int),(k:Int)))
    have x6:=hR.out.cell hdn
    have HRW:=Lib.hid (hR.out.rows d hdn)
    have hlen:=rowG_len f d k hk d
    have hsz:=hI.out.b.size
    have HWA:Below wr.heap.size wr (wr.alloc (.cells #[.int .i64 k] 3)):=(Below.refl _ _).alloc (Nat.le_refl _) _
    clear hfk
    go_upto_region 13 with (at_builtin;refine wpList_append_lies _ rfl _ _ 68 rfl w.heap.size 3 j0 _ 1 8 Tryz.underlying68 hj0 jz0 jz1 jz2 rfl (by omega) _ _ _ rfl (HRW.out.alloc _) ⟨wr.heap.size,0,none⟩ 1 1 [.int .i64 k] rfl rfl (World.news_of_block (cs:=#[.int .i64 k]) (t:=3) (fr:=(0,0)) (heap_alloc_new wr _)) (by simp [Value.oneCell']) (by omega) (by unfold maxLen;omega) (by omega) (by simp;omega) (wr.heap.size+1) (by simp) ?_;intro gg cap3 w3 hown3 hgrow hat3 hlt3;obtain ⟨k1,k2,ks,k3⟩:=hR.out.mid hdn hgrow)
    have HP3:=Lib.hid (hR.out.push HWA hdn hown3 rfl hgrow (by rw [World.size_alloc];exact hat3))
    have hm3:=hI.out.row HRW.out (Nat.le_refl _) hgrow
    have HM4:=Lib.hid (hm3.grown k3 (by decide) (by decide) (by decide) (by decide) hkb (set_grown w3 KB d (.slice (some ⟨gg,0,none⟩) ((rowG f d k d).length+1) cap3)))
    rw [← HGY.out] at HP3
    generalize w3.setCell ⟨KB,d,none⟩ (.slice (some ⟨gg,0,none⟩) ((rowG f d k d).length+1) cap3)=W5 at *
    clear hown3 hgrow hat3 hlt3 k1 k2 k3 hm3 x6 hka hI hR hA HWA
    go_wp2_with fail
    refine (HAD.out d (by rw [HN.out];exact hdn) k m q (by omega) W5 HM4.out).mono ?_
    rintro e w6 ⟨rfl,hm6,hf6,_⟩
    have HM6:=Lib.hid hm6
    have HR6:=Lib.hid (HP3.out.adf hf6 HM4.out.noX)
    clear hm6 hf6 HP3 HM4
    go_wp2
    go_roundw
    case rel=>exact ⟨k+1,_,_,_,by omega,by go_num,HQL.out,HM6,HR6,HAN⟩
    case measure=>simp [intOf];omega
   ·rw [decide_eq_false hfk] at hka
    have hix:=run_keyAt KA k hk1 false hka wr
    have HR6:RowKit.Hid (RwsI w.heap.size n KB vals (rowG f d (k+1)) wr):=by rw [rowG_no hfk];exact hR
    have HAN:=Lib.hid (hA.out.skip hfk)
    clear hfk hA hR
    go_wp2
    go_roundw
    case rel=>exact ⟨k+1,vals,m,q,by omega,by go_num,hql,hI,HR6,HAN⟩
    case measure=>simp [intOf];omega
  ·have hk3:¬ (k:Int)<128:=by omega
   have hk8:k=128:=by omega
   have HR6:RowKit.Hid (RwsI w.heap.size n KB vals (rowG f (d+1) 0) wr):=by rw [← rowG_next,← hk8];exact hR
   have HAN:=Lib.hid (AcA.row HF.out (by rw [← hk8];exact hA.out))
   clear hk8 hR hA
   go_wp2
   go_roundw
   case rel=>exact ⟨d+1,vals,m,q,by omega,by go_num,hql,hI,HR6,HAN⟩
   case measure=>simp [intOf];omega
 ·have hd2:¬ (d:Int)<(n:Int):=by omega
  have hdn2:d=n:=by omega
  subst hdn2
  have HB:=Lib.hid (AcB.of (S:=S) (by rw [HN.out];exact hA.out))
  have x1:wr.cell? ⟨w.heap.size,0,none⟩=some (.pointer (some ⟨B,0,none⟩)):=hI.out.x1.cell 0
  have p0:wr.cell? ⟨B,0,none⟩=some (.pointer (some ⟨PB,0,none⟩)):=(HPX.out.below hI.out.b).sp
  have s3:wr.cell? ⟨PB,3,none⟩=some (.slice a4 S.cs.length c4):=(HPB.out.below hI.out.b).cell 3
  clear hA hdn hd2 hd
  go_wp2
  clear x1 p0 s3
  go_loopw [70] (fun x wr=>∃ (i:Nat) (m q:List Pl),i≤S.cs.length∧x = .int .i64 i∧q.length≤m.length∧RowKit.Hid (AcM w B m q wr)∧RowKit.Hid (RwsI w.heap.size d KB vals (rowG f d 0) wr)∧RowKit.Hid (AcB S f i 0 m q)) (fun x _=>S.cs.length-(intOf x).toNat)
  case atStart=>exact ⟨0,m,q,Nat.zero_le _,rfl,hql,hI,hR,HB⟩
  clear hI hR HB hql
  obtain ⟨i,m,q,hi,rfl,hql,hI,hR,hB⟩:=hrel
  by_cases hil:i<S.cs.length
  ·have hi2:(i:Int)<(S.cs.length:Int):=by omega
   have hi24:(i:Int)<24:=by omega
   obtain ⟨b,o,c',ev,hbl,r0,r1,r2,r3,r4,r5⟩:=HSP.out.cAt i hil
   cases ev
   obtain ⟨p0,p1,p2,p3,p4,p5,p6,p7,_⟩:=cp_good HC.out (List.getElem_mem hil)
   have HOFF:=Lib.hid (fun (h:f (3,0,(i:Int))≠1∨playedL f S.cs[i].frm=[])=>hB.out.off hil h)
   have HADD:=Lib.hid (fun (j:Nat) (m q:List Pl) (h:AcB S f i j m q) (hon:f (3,0,(i:Int))=1) (hj:j<(takes S.cs[i].only (playedL f S.cs[i].frm)).length) (x:Pl) (hx:x=(S.cs[i].to,(takes S.cs[i].only (playedL f S.cs[i].frm))[j]+S.cs[i].shift))=>h.add hil hon hj hx)
   have HEND:=Lib.hid (fun (j:Nat) (m q:List Pl) (h:AcB S f i j m q) (hj:(takes S.cs[i].only (playedL f S.cs[i].frm)).length≤j)=>h.end (fun _=>hj))
   obtain ⟨nm,hnm⟩:∃ x,S.cs[i].name=x:=⟨_,rfl⟩
   obtain ⟨frI,hfr⟩:∃ x,S.cs[i].frm=x:=⟨_,rfl⟩
   obtain ⟨toI,hto⟩:∃ x,S.cs[i].to=x:=⟨_,rfl⟩
   obtain ⟨sh,hsh⟩:∃ x,S.cs[i].shift=x:=⟨_,rfl⟩
   obtain ⟨on,hon2⟩:∃ x,S.cs[i].only=x:=⟨_,rfl⟩
   obtain ⟨th,hth⟩:∃ x,S.cs[i].thr=x:=⟨_,rfl⟩
   rw [hnm] at r0
   rw [hfr] at r1 p0 p1 HOFF HADD HEND
   rw [hto] at r2 p2 p3 HADD
   rw [hsh] at r3 p4 p5 HADD
   rw [hon2] at r4 p6 p7 HADD HEND
   rw [hth] at r5
   obtain ⟨fr,rfl⟩:=Int.eq_ofNat_of_zero_le p0
   obtain ⟨to',rfl⟩:=Int.eq_ofNat_of_zero_le p2
   rw [HN.out] at p1 p3
   have hfr2:fr<d:=by omega
   have hto2:to'<d:=by omega
   replace r0:=(hI.out.b.cell hbl).trans r0
   replace r1:=(hI.out.b.cell hbl).trans r1
   replace r2:=(hI.out.b.cell hbl).trans r2
   replace r3:=(hI.out.b.cell hbl).trans r3
   replace r4:=(hI.out.b.cell hbl).trans r4
   replace r5:=(hI.out.b.cell hbl).trans r5
   clear hnm hfr hto hsh hon2 hth p0 p2
   go_upto_region 19 with fail
   have hb2:Below wr.heap.size wr (wr.alloc (.cells #[.string nm,.int .i64 fr,.int .i64 to',.int .i64 sh,.int .i64 on,.bool th] 153)):=(Below.refl _ wr).alloc (Nat.le_refl _) _
   have HM2:=Lib.hid (hI.out.low hb2)
   have HR2:=Lib.hid (hR.out.below hb2)
   have HC2:=Lib.hid (Blk.new wr 153 #[.string nm,.int .i64 fr,.int .i64 to',.int .i64 sh,.int .i64 on,.bool th])
   obtain ⟨P,hP⟩:∃ P,wr.heap.size=P:=⟨_,rfl⟩
   rw [hP] at HC2 ⊢
   generalize wr.alloc (.cells #[.string nm,.int .i64 fr,.int .i64 to',.int .i64 sh,.int .i64 on,.bool th] 153)=W2 at *
   clear r0 r1 r2 r3 r4 r5 hP hb2 hI hR
   have hrw:=HR2.out.rows fr hfr2
   rw [rowG_full hfr2] at hrw
   have HRW:=Lib.hid hrw
   have z1:W2.cell? ⟨P,1,none⟩=some (.int .i64 fr):=HC2.out.cell 1
   have x6:=HR2.out.cell hfr2
   have x1:W2.cell? ⟨w.heap.size,0,none⟩=some (.pointer (some ⟨B,0,none⟩)):=HM2.out.x1.cell 0
   have hpon:=(HPX.out.below HM2.out.b).on (onIx_coupler (n:=i) (by omega))
   unfold onCell at hpon
   rw [if_neg (show ¬ (3:Int)=4 by decide),show 1+(848+i)=849+i by omega] at hpon
   have hlp:=len_playedL f fr
   have hfr3:(fr:Int)<(d:Int):=by omega
   obtain ⟨aV,cV,eV⟩:=(ARd.of_ints hrw).intForm
   rw [eV] at x6 HRW
   have HV:=Lib.hid eV
   clear hrw eV
   by_cases hon:f (3,0,(i:Int))=1
   ·by_cases hL:playedL f fr=[]
    ·have HOF:=Lib.hid (HOFF.out (.inr hL))
     rw [hL] at x6
     rw [decide_eq_true hon] at hpon
     clear hL hlp HADD HEND
     go_wp2
     go_roundw
     case rel=>exact ⟨i+1,m,q,by omega,by go_num,hql,HM2,HR2,HOF⟩
     case measure=>simp [intOf];omega
    ·rw [decide_eq_true hon] at hpon
     have h0:0<(playedL f fr).length:=List.length_pos_iff.2 hL
     obtain ⟨L,hLL⟩:∃ L,playedL f fr=L:=⟨_,rfl⟩
     rw [hLL] at x6 HRW h0 hlp HADD HEND
     have HLL:=Lib.hid hLL
     have hLR:∀ x∈L,0≤x∧x<128:=fun x hx=>by
      rw [← hLL] at hx
      have:=mem_playedL.1 hx
      exact ⟨this.1,this.2.1⟩
     obtain ⟨g,rfl,hcv⟩:∃ g,aV=some ⟨g,0,none⟩∧L.length≤cV:=by
      rcases HRW.out.2 with ⟨e,_⟩ | ⟨g,cap,cur,e,_,_,h3,_⟩
      ·injection e with e1 e2 e3
       omega
      ·injection e with e1 e2 e3
       exact ⟨g,e1,by omega⟩
     rw [hLL] at HV
     obtain ⟨L1,hL1⟩:∃ x,L.length-1=x:=⟨_,rfl⟩
     have e0:((L.length:Int)==0)=false:=by rw [beq_eq_false_iff_ne];omega
     clear hLL hL HOFF
     rcases (show on=0∨on=1∨on=2 by omega) with rfl | rfl | rfl
     ·have z4:W2.cell? ⟨P,4,none⟩=some (.int .i64 0):=HC2.out.cell 4
      have HTR:=Lib.hid (fun (W':World) (h:W'.ownsRow w.heap.size 3 1 (.slice (some ⟨g,0,none⟩) L.length cV) L.length (iCs L))=>((takes_rd h rfl h0 0 (by omega)).1 rfl).1)
      have hTl:(takes 0 L).length=L.length:=((takes_rd HRW.out rfl h0 0 (by omega)).1 rfl).2
      have HTS:=Lib.hid (fun (x:Int) (hx:x∈takes 0 L)=>hLR x (mem_takes hx))
      have e5:IntKind.i64.wrap ((L.length:Int)-1)=(L1:Int):=by rw [IntWalk.i64_in _ (by omega)];omega
      obtain ⟨T,hT⟩:∃ T,takes 0 L=T:=⟨_,rfl⟩
      rw [hT] at HADD HEND HTR hTl HTS
      clear hT hLR
      go_upto_region 25 with fail
      clear z1 z4 x1 x6 hpon e5 e0
      go_wp2
      go_loopw [110] (fun x wr=>∃ (j:Nat) (m q:List Pl),j≤T.length∧x = .int .i64 j∧q.length≤m.length∧RowKit.Hid (AcM w B m q wr)∧RowKit.Hid (RwsI w.heap.size d KB vals (rowG f d 0) wr)∧RowKit.Hid (AcB S f i j m q)∧RowKit.Hid (Blk wr P 153 #[.string nm,.int .i64 fr,.int .i64 to',.int .i64 sh,.int .i64 0,.bool th])) (fun x _=>T.length-(intOf x).toNat)
      case atStart=>exact ⟨0,m,q,Nat.zero_le _,rfl,hql,HM2,HR2,hB,HC2⟩
      clear HM2 HR2 hB HC2 hql HRW
      obtain ⟨j,m,q,hj,rfl,hql,hI,hR,hB,hC⟩:=hrel
      by_cases hjl:j<T.length
      ·have hj2:(j:Int)<((L.length:Nat):Int):=by omega
       have hml:=hB.out.ai.len HSG.out.ds HSG.out.d
       have hrw:=hR.out.rows fr hfr2
       rw [rowG_full hfr2,HLL.out,HV.out] at hrw
       obtain ⟨bt,ot,ct,ev,hbt,hct⟩:=(HTR.out wr hrw).intAt j hjl
       rw [hTl] at ev
       cases ev
       try rw [Nat.zero_add] at hct
       have hAD:=HADD.out j m q hB.out hon hjl
       have hxm:=HTS.out _ (List.getElem_mem hjl)
       obtain ⟨x0,hx0⟩:∃ x,T[j]=x:=⟨_,rfl⟩
       rw [hx0] at hct hAD hxm
       have HAN:=Lib.hid (hAD ((to':Int),x0+sh) rfl)
       have HQL:=Lib.hid (addQ_len (S:=S) hql ((to':Int),x0+sh))
       have e5:IntKind.i64.wrap (x0+sh)=x0+sh:=IntWalk.i64_in _ (by omega)
       have z2:wr.cell? ⟨P,2,none⟩=some (.int .i64 to'):=hC.out.cell 2
       have z3:wr.cell? ⟨P,3,none⟩=some (.int .i64 sh):=hC.out.cell 3
       clear hx0 hAD hrw hbt
       go_wp2_with fail
       refine (HAD.out to' (by rw [HN.out];exact hto2) (x0+sh) m q (by omega) wr hI.out).mono ?_
       rintro e w6 ⟨rfl,hm6,hf6,_⟩
       have HM6:=Lib.hid hm6
       have HR6:=Lib.hid (hR.out.adf hf6 hI.out.noX)
       have HC6:=Lib.hid (hf6.2 _ _ _ hC.out (by decide) (hI.out.noC hC.out))
       clear hm6 hf6 hR hI hC hB z2 z3 hct
       go_wp2
       go_roundw
       case rel=>exact ⟨j+1,_,_,by omega,by go_num,HQL.out,HM6,HR6,HAN,HC6⟩
       case measure=>simp [intOf];omega
      ·have hj2:¬ (j:Int)<((L.length:Nat):Int):=by omega
       have HE:=Lib.hid (HEND.out j m q hB.out (by omega))
       clear hB
       go_wp2
       go_roundw
       case rel=>exact ⟨i+1,m,q,by omega,by go_num,hql,hI,hR,HE⟩
       case measure=>simp [intOf];omega
     ·have z4:W2.cell? ⟨P,4,none⟩=some (.int .i64 1):=HC2.out.cell 4
      have HTR:=Lib.hid (fun (W':World) (h:W'.ownsRow w.heap.size 3 1 (.slice (some ⟨g,0,none⟩) L.length cV) L.length (iCs L))=>((takes_rd h rfl h0 1 (by omega)).2.1 rfl).1)
      have hTl:(takes 1 L).length=1:=((takes_rd HRW.out rfl h0 1 (by omega)).2.1 rfl).2
      have HTS:=Lib.hid (fun (x:Int) (hx:x∈takes 1 L)=>hLR x (mem_takes hx))
      have e5:IntKind.i64.wrap ((L.length:Int)-1)=(L1:Int):=by rw [IntWalk.i64_in _ (by omega)];omega
      obtain ⟨T,hT⟩:∃ T,takes 1 L=T:=⟨_,rfl⟩
      rw [hT] at HADD HEND HTR hTl HTS
      clear hT hLR
      go_upto_region 25 with fail
      clear z1 z4 x1 x6 hpon e5 e0
      go_wp2
      go_loopw [110] (fun x wr=>∃ (j:Nat) (m q:List Pl),j≤T.length∧x = .int .i64 j∧q.length≤m.length∧RowKit.Hid (AcM w B m q wr)∧RowKit.Hid (RwsI w.heap.size d KB vals (rowG f d 0) wr)∧RowKit.Hid (AcB S f i j m q)∧RowKit.Hid (Blk wr P 153 #[.string nm,.int .i64 fr,.int .i64 to',.int .i64 sh,.int .i64 1,.bool th])) (fun x _=>T.length-(intOf x).toNat)
      case atStart=>exact ⟨0,m,q,Nat.zero_le _,rfl,hql,HM2,HR2,hB,HC2⟩
      clear HM2 HR2 hB HC2 hql HRW
      obtain ⟨j,m,q,hj,rfl,hql,hI,hR,hB,hC⟩:=hrel
      by_cases hjl:j<T.length
      ·have hj2:(j:Int)<((1:Nat):Int):=by omega
       have hml:=hB.out.ai.len HSG.out.ds HSG.out.d
       have hrw:=hR.out.rows fr hfr2
       rw [rowG_full hfr2,HLL.out,HV.out] at hrw
       obtain ⟨bt,ot,ct,ev,hbt,hct⟩:=(HTR.out wr hrw).intAt j hjl
       rw [hTl] at ev
       cases ev
       try rw [Nat.zero_add] at hct
       have hAD:=HADD.out j m q hB.out hon hjl
       have hxm:=HTS.out _ (List.getElem_mem hjl)
       obtain ⟨x0,hx0⟩:∃ x,T[j]=x:=⟨_,rfl⟩
       rw [hx0] at hct hAD hxm
       have HAN:=Lib.hid (hAD ((to':Int),x0+sh) rfl)
       have HQL:=Lib.hid (addQ_len (S:=S) hql ((to':Int),x0+sh))
       have e5:IntKind.i64.wrap (x0+sh)=x0+sh:=IntWalk.i64_in _ (by omega)
       have z2:wr.cell? ⟨P,2,none⟩=some (.int .i64 to'):=hC.out.cell 2
       have z3:wr.cell? ⟨P,3,none⟩=some (.int .i64 sh):=hC.out.cell 3
       clear hx0 hAD hrw hbt
       go_wp2_with fail
       refine (HAD.out to' (by rw [HN.out];exact hto2) (x0+sh) m q (by omega) wr hI.out).mono ?_
       rintro e w6 ⟨rfl,hm6,hf6,_⟩
       have HM6:=Lib.hid hm6
       have HR6:=Lib.hid (hR.out.adf hf6 hI.out.noX)
       have HC6:=Lib.hid (hf6.2 _ _ _ hC.out (by decide) (hI.out.noC hC.out))
       clear hm6 hf6 hR hI hC hB z2 z3 hct
       go_wp2
       go_roundw
       case rel=>exact ⟨j+1,_,_,by omega,by go_num,HQL.out,HM6,HR6,HAN,HC6⟩
       case measure=>simp [intOf];omega
      ·have hj2:¬ (j:Int)<((1:Nat):Int):=by omega
       have HE:=Lib.hid (HEND.out j m q hB.out (by omega))
       clear hB
       go_wp2
       go_roundw
       case rel=>exact ⟨i+1,m,q,by omega,by go_num,hql,hI,hR,HE⟩
       case measure=>simp [intOf];omega
     ·have z4:W2.cell? ⟨P,4,none⟩=some (.int .i64 2):=HC2.out.cell 4
      have HTR:=Lib.hid (fun (W':World) (h:W'.ownsRow w.heap.size 3 1 (.slice (some ⟨g,0,none⟩) L.length cV) L.length (iCs L))=>(show ARd W' (.slice (some ⟨g,L1,none⟩) 1 (cV-L1)) 1 ((takes 2 L).map iC) by rw [← hL1];exact ((takes_rd h rfl h0 2 (by omega)).2.2 rfl).1))
      have hTl:(takes 2 L).length=1:=((takes_rd HRW.out rfl h0 2 (by omega)).2.2 rfl).2
      have HTS:=Lib.hid (fun (x:Int) (hx:x∈takes 2 L)=>hLR x (mem_takes hx))
      have e5:IntKind.i64.wrap ((L.length:Int)-1)=(L1:Int):=by rw [IntWalk.i64_in _ (by omega)];omega
      obtain ⟨T,hT⟩:∃ T,takes 2 L=T:=⟨_,rfl⟩
      rw [hT] at HADD HEND HTR hTl HTS
      clear hT hLR
      go_upto_region 25 with fail
      clear z1 z4 x1 x6 hpon e5 e0
      go_wp2
      go_loopw [110] (fun x wr=>∃ (j:Nat) (m q:List Pl),j≤T.length∧x = .int .i64 j∧q.length≤m.length∧RowKit.Hid (AcM w B m q wr)∧RowKit.Hid (RwsI w.heap.size d KB vals (rowG f d 0) wr)∧RowKit.Hid (AcB S f i j m q)∧RowKit.Hid (Blk wr P 153 #[.string nm,.int .i64 fr,.int .i64 to',.int .i64 sh,.int .i64 2,.bool th])) (fun x _=>T.length-(intOf x).toNat)
      case atStart=>exact ⟨0,m,q,Nat.zero_le _,rfl,hql,HM2,HR2,hB,HC2⟩
      clear HM2 HR2 hB HC2 hql HRW
      obtain ⟨j,m,q,hj,rfl,hql,hI,hR,hB,hC⟩:=hrel
      by_cases hjl:j<T.length
      ·have hj2:(j:Int)<((1:Nat):Int):=by omega
       have hml:=hB.out.ai.len HSG.out.ds HSG.out.d
       have hrw:=hR.out.rows fr hfr2
       rw [rowG_full hfr2,HLL.out,HV.out] at hrw
       obtain ⟨bt,ot,ct,ev,hbt,hct⟩:=(HTR.out wr hrw).intAt j hjl
       rw [hTl] at ev
       cases ev
       try rw [Nat.zero_add] at hct
       have hAD:=HADD.out j m q hB.out hon hjl
       have hxm:=HTS.out _ (List.getElem_mem hjl)
       obtain ⟨x0,hx0⟩:∃ x,T[j]=x:=⟨_,rfl⟩
       rw [hx0] at hct hAD hxm
       have HAN:=Lib.hid (hAD ((to':Int),x0+sh) rfl)
       have HQL:=Lib.hid (addQ_len (S:=S) hql ((to':Int),x0+sh))
       have e5:IntKind.i64.wrap (x0+sh)=x0+sh:=IntWalk.i64_in _ (by omega)
       have z2:wr.cell? ⟨P,2,none⟩=some (.int .i64 to'):=hC.out.cell 2
       have z3:wr.cell? ⟨P,3,none⟩=some (.int .i64 sh):=hC.out.cell 3
       clear hx0 hAD hrw hbt
       go_wp2_with fail
       refine (HAD.out to' (by rw [HN.out];exact hto2) (x0+sh) m q (by omega) wr hI.out).mono ?_
       rintro e w6 ⟨rfl,hm6,hf6,_⟩
       have HM6:=Lib.hid hm6
       have HR6:=Lib.hid (hR.out.adf hf6 hI.out.noX)
       have HC6:=Lib.hid (hf6.2 _ _ _ hC.out (by decide) (hI.out.noC hC.out))
       clear hm6 hf6 hR hI hC hB z2 z3 hct
       go_wp2
       go_roundw
       case rel=>exact ⟨j+1,_,_,by omega,by go_num,HQL.out,HM6,HR6,HAN,HC6⟩
       case measure=>simp [intOf];omega
      ·have hj2:¬ (j:Int)<((1:Nat):Int):=by omega
       have HE:=Lib.hid (HEND.out j m q hB.out (by omega))
       clear hB
       go_wp2
       go_roundw
       case rel=>exact ⟨i+1,m,q,by omega,by go_num,hql,hI,hR,HE⟩
       case measure=>simp [intOf];omega
   ·have HOF:=Lib.hid (HOFF.out (.inl hon))
    rw [decide_eq_false hon] at hpon
    clear hon HADD HEND
    go_wp2
    go_roundw
    case rel=>exact ⟨i+1,m,q,by omega,by go_num,hql,HM2,HR2,HOF⟩
    case measure=>simp [intOf];omega
  ·have hi2:¬ (i:Int)<(S.cs.length:Int):=by omega
   have hie:i=S.cs.length:=by omega
   have hall:=AcB.all (by rw [← hie];exact hB.out)
   have HI:=Lib.hid hall.1
   have HH:=Lib.hid hall.2
   clear hie hall hB hR
   go_wp2
   go_loopg [] (2 * (1000-m.length)+q.length+1) (fun kk wr=>∃ (m q:List Pl),q.length≤m.length∧2 * (1000-m.length)+q.length+1≤kk∧RowKit.Hid (AcM w B m q wr)∧RowKit.Hid (AcI S f m q)∧RowKit.Hid (AcH S f m))
   case atStart=>exact ⟨m,q,hql,Nat.le_refl _,hI,HI,HH⟩
   case round =>
    clear hI HI HH hql hi hi2 hil
    obtain ⟨m,q,hql,hmu,hI,HI,HH⟩:=hrel
    obtain ⟨vq,h4,hqu⟩:=hI.out.x4
    have x4:wr.cell? ⟨w.heap.size+1+1+1,0,none⟩=some vq:=h4.cell 0
    obtain ⟨aq,cq,evq⟩:=hqu.form
    cases q with
    | nil =>
     subst evq
     have HALL:=Lib.hid (fun x=>act_all HI.out HH.out x)
     have x3:wr.cell? ⟨w.heap.size+1+1,0,none⟩=some (.map (some (w.heap.size+1))):=hI.out.x3.cell 0
     clear h4 hqu
     go_wp2
     go_ret
     exact ⟨_,m,rfl,by omega,hI.out.mp,HALL.out,hI.out.b⟩
    | cons x q =>
     obtain ⟨g,o,cap,y4,yf,t1,t2,hcp,hpop⟩:=hI.out.pop
     have hvq:vq = .slice (some ⟨g,o,none⟩) (q.length+1) (cap+1):=Option.some.inj (x4.symm.trans y4)
     subst hvq
     have hgl:g<wr.heap.size:=cell_size t1
     have hxm:=HI.out.sub x (by simp)
     have hxk:=keyOk_lt HSG.out.ds HSG.out.d (HI.out.ok x hxm)
     have HTK:=Lib.hid HI.out.take
     have HPO:=Lib.hid hpop
     have H4:=Lib.hid h4
     rw [List.length_cons] at hql hmu
     clear evq hqu hpop HI h4 x4 hxm
     go_upto_region 33 with fail
     have hb2:Below wr.heap.size wr (wr.alloc (.cells #[.int .i64 x.1,.int .i64 x.2] 181)):=(Below.refl _ wr).alloc (Nat.le_refl _) _
     have HP2:=Lib.hid (Blk.new wr 181 #[.int .i64 x.1,.int .i64 x.2])
     have H42:=Lib.hid (H4.out.below hb2)
     obtain ⟨P,hP⟩:∃ P,wr.heap.size=P:=⟨_,rfl⟩
     rw [hP] at HP2 hgl ⊢
     generalize wr.alloc (.cells #[.int .i64 x.1,.int .i64 x.2] 181)=W2 at *
     have y42:W2.cell? ⟨w.heap.size+1+1+1,0,none⟩=some (.slice (some ⟨g,o,none⟩) (q.length+1) (cap+1)):=H42.out.cell 0
     have yf2:W2.frozen? ⟨w.heap.size+1+1+1,0,none⟩=false:=H42.out.frozen 0
     have hPX:P≠w.heap.size+1+1+1:=HP2.out.ne H42.out (by decide)
     have HNO:=Lib.hid (fun (o2:Nat)=>(show Blk (W2.setCell ⟨w.heap.size+1+1+1,0,none⟩ (.slice (some ⟨g,o2,none⟩) q.length cap)) P 181 #[.int .i64 x.1,.int .i64 x.2]∧OffQ (w.heap.size+1+1+1) P (W2.setCell ⟨w.heap.size+1+1+1,0,none⟩ (.slice (some ⟨g,o2,none⟩) q.length cap)) from ⟨HP2.out.other ⟨w.heap.size+1+1+1,0,none⟩ _ hPX,fun v hv e=>by
      have h43:=H42.out.set 0 (.slice (some ⟨g,o2,none⟩) q.length cap)
      unfold Blk at h43 hv
      rw [h43] at hv
      cases hv
      simp only [Value.ownBlock,Option.some.injEq] at e
      omega⟩))
     have HPB2:=Lib.hid (fun (o2:Nat) (h:o2=o+2∨cap=0∧o2=o)=>HPO.out W2 o2 hb2 h)
     clear hb2 y4 yf t1 t2 H4 H42 HP2 HPO hP
     go_cut [] from 125 to 173 (fun wx=>RowKit.Hid (AcM w B m q wx)∧RowKit.Hid (Blk wx P 181 #[.int .i64 x.1,.int .i64 x.2])∧RowKit.Hid (OffQ (w.heap.size+1+1+1) P wx))
     case first =>
      rcases Nat.eq_zero_or_pos cap with hc0 | hc0
      ·have K1:=Lib.hid (HPB2.out o (.inr ⟨hc0,rfl⟩))
       have K2:=Lib.hid (HNO.out o).1
       have K3:=Lib.hid (HNO.out o).2
       have hq0:q.length=0:=by omega
       rw [hq0] at K1 K2 K3
       rw [hc0] at K1 K2 K3
       subst hc0
       have hcc:¬ 0<0:=Nat.lt_irrefl 0
       clear HPB2 HNO
       go_wp2
       go_meet
       exact ⟨K1,K2,K3⟩
      ·have hc1:¬ cap=0:=by omega
       go_wp2
       go_meet
       exact ⟨Lib.hid (HPB2.out (o+2) (.inl rfl)),Lib.hid (HNO.out (o+2)).1,Lib.hid (HNO.out (o+2)).2⟩
     case rest =>
     obtain ⟨HM3,HN3,HO3⟩:=hcut
     rename World=>W3
     clear y42 yf2 HNO HPB2
     have x1:W3.cell? ⟨w.heap.size,0,none⟩=some (.pointer (some ⟨B,0,none⟩)):=HM3.out.x1.cell 0
     have p0:W3.cell? ⟨B,0,none⟩=some (.pointer (some ⟨PB,0,none⟩)):=(HPX.out.below HM3.out.b).sp
     have s3:W3.cell? ⟨PB,3,none⟩=some (.slice a4 S.cs.length c4):=(HPB.out.below HM3.out.b).cell 3
     go_wp2
     clear x1 p0 s3
     go_loopw [141] (fun v wr=>∃ (i:Nat) (m2 q2:List Pl),i≤S.cs.length∧v = .int .i64 i∧q2.length≤m2.length∧2 * (1000-m2.length)+q2.length≤2 * (1000-m.length)+q.length∧RowKit.Hid (AcM w B m2 q2 wr)∧RowKit.Hid (AcT S f x i m2 q2)∧RowKit.Hid (AcH S f m2)∧RowKit.Hid (Blk wr P 181 #[.int .i64 x.1,.int .i64 x.2])∧RowKit.Hid (OffQ (w.heap.size+1+1+1) P wr)) (fun x _=>S.cs.length-(intOf x).toNat)
     case atStart=>exact ⟨0,m,q,Nat.zero_le _,rfl,by omega,Nat.le_refl _,HM3,HTK,HH,HN3,HO3⟩
     clear HM3 HTK HH HN3 HO3
     obtain ⟨i,m2,q2,hi,rfl,hql,hle,hI,hT,hH,hN,hO⟩:=hrel
     by_cases hil:i<S.cs.length
     ·have hi2:(i:Int)<(S.cs.length:Int):=by omega
      have hi24:(i:Int)<24:=by omega
      obtain ⟨b,oc,c',ev,hbl,r0,r1,r2,r3,r4,r5⟩:=HSP.out.cAt i hil
      cases ev
      obtain ⟨p0,p1,p2,p3,p4,p5,p6,p7,_⟩:=cp_good HC.out (List.getElem_mem hil)
      have hml:m2.length≤768:=pl_count hT.out.nodup fun y hy=>by
       have:=keyOk_lt HSG.out.ds HSG.out.d (hT.out.ok y hy)
       omega
      have HTB:=Lib.hid (show thrB S f x i=(decide (f (3,0,(i:Int))=1) && S.cs[i].thr && decide (S.cs[i].frm=x.1)) by unfold thrB;rw [List.getElem?_eq_getElem hil])
      have htt:thrTo S x i=(S.cs[i].to,x.2+S.cs[i].shift):=by unfold thrTo;rw [List.getElem?_eq_getElem hil]
      have HADT:=Lib.hid (fun (h:thrB S f x i=true)=>hT.out.add hil h)
      rw [htt] at HADT
      obtain ⟨nm,hnm⟩:∃ x,S.cs[i].name=x:=⟨_,rfl⟩
      obtain ⟨frI,hfr⟩:∃ x,S.cs[i].frm=x:=⟨_,rfl⟩
      obtain ⟨toI,hto⟩:∃ x,S.cs[i].to=x:=⟨_,rfl⟩
      obtain ⟨sh,hsh⟩:∃ x,S.cs[i].shift=x:=⟨_,rfl⟩
      obtain ⟨on,hon2⟩:∃ x,S.cs[i].only=x:=⟨_,rfl⟩
      obtain ⟨th,hth⟩:∃ x,S.cs[i].thr=x:=⟨_,rfl⟩
      rw [hnm] at r0
      rw [hfr] at r1 HTB
      rw [hto] at r2 p2 p3 HADT
      rw [hsh] at r3 p4 p5 HADT
      rw [hon2] at r4
      rw [hth] at r5 HTB
      obtain ⟨to',rfl⟩:=Int.eq_ofNat_of_zero_le p2
      have hto2:to'<S.ds.length:=by omega
      replace r0:=(hI.out.b.cell hbl).trans r0
      replace r1:=(hI.out.b.cell hbl).trans r1
      replace r2:=(hI.out.b.cell hbl).trans r2
      replace r3:=(hI.out.b.cell hbl).trans r3
      replace r4:=(hI.out.b.cell hbl).trans r4
      replace r5:=(hI.out.b.cell hbl).trans r5
      clear hnm hfr hto hsh hon2 hth p2 htt
      go_upto_region 37 with fail
      have hb2:Below wr.heap.size wr (wr.alloc (.cells #[.string nm,.int .i64 frI,.int .i64 to',.int .i64 sh,.int .i64 on,.bool th] 153)):=(Below.refl _ wr).alloc (Nat.le_refl _) _
      have HM3:=Lib.hid (hI.out.low hb2)
      have hNO:=AdN.of_below hI.out hb2 P _ hN.out hO.out
      have HN3:=Lib.hid hNO.1
      have HO3:=Lib.hid hNO.2
      have HC3:=Lib.hid (Blk.new wr 153 #[.string nm,.int .i64 frI,.int .i64 to',.int .i64 sh,.int .i64 on,.bool th])
      obtain ⟨P2,hP2⟩:∃ P2,wr.heap.size=P2:=⟨_,rfl⟩
      rw [hP2] at HC3 ⊢
      generalize wr.alloc (.cells #[.string nm,.int .i64 frI,.int .i64 to',.int .i64 sh,.int .i64 on,.bool th] 153)=W4 at *
      clear r0 r1 r2 r3 r4 r5 hP2 hb2 hI hN hO hNO
      have x1:W4.cell? ⟨w.heap.size,0,none⟩=some (.pointer (some ⟨B,0,none⟩)):=HM3.out.x1.cell 0
      have hpon:=(HPX.out.below HM3.out.b).on (onIx_coupler (n:=i) (by omega))
      unfold onCell at hpon
      rw [if_neg (show ¬ (3:Int)=4 by decide),show 1+(848+i)=849+i by omega] at hpon
      have z5:W4.cell? ⟨P2,5,none⟩=some (.bool th):=HC3.out.cell 5
      have z1:W4.cell? ⟨P2,1,none⟩=some (.int .i64 frI):=HC3.out.cell 1
      have n0:W4.cell? ⟨P,0,none⟩=some (.int .i64 x.1):=HN3.out.cell 0
      by_cases hon:f (3,0,(i:Int))=1
      ·rw [decide_eq_true hon] at hpon HTB
       cases th with
       | false =>
        have HS:=Lib.hid (hT.out.skip (by rw [HTB.out];simp))
        clear HADT hon
        go_wp2
        go_roundw
        case rel=>exact ⟨i+1,m2,q2,by omega,by go_num,hql,hle,HM3,HS,hH,HN3,HO3⟩
        case measure=>simp [intOf];omega
       | true =>
        by_cases hfx:frI=x.1
        ·have e1:(frI==x.1)=true:=by rw [hfx];exact beq_self_eq_true _
         have HAN:=Lib.hid (HADT.out (by rw [HTB.out,decide_eq_true hfx];rfl))
         have HHN:=Lib.hid (hH.out.addM ((to':Int),x.2+sh))
         have HQL:=Lib.hid (addQ_len (S:=S) hql ((to':Int),x.2+sh))
         have hms:=addQ_measure (S:=S) (m:=m2) (q:=q2) (x:=((to':Int),x.2+sh))
         have hml2:(addM S m2 ((to':Int),x.2+sh)).length≤m2.length+1:=by
          unfold addM
          split
          ·simp
          ·omega
         have HLE:=Lib.hid (show 2 * (1000-(addM S m2 ((to':Int),x.2+sh)).length)+(addQ S m2 q2 ((to':Int),x.2+sh)).length≤2 * (1000-m.length)+q.length by
          split at hms <;> omega)
         have e5:IntKind.i64.wrap (x.2+sh)=x.2+sh:=IntWalk.i64_in _ (by omega)
         have z2:W4.cell? ⟨P2,2,none⟩=some (.int .i64 to'):=HC3.out.cell 2
         have z3:W4.cell? ⟨P2,3,none⟩=some (.int .i64 sh):=HC3.out.cell 3
         have n1:W4.cell? ⟨P,1,none⟩=some (.int .i64 x.2):=HN3.out.cell 1
         clear hms hml2 hon HADT HTB
         go_wp2_with fail
         refine (HAD.out to' hto2 (x.2+sh) m2 q2 (by omega) W4 HM3.out).mono ?_
         rintro e w6 ⟨rfl,hm6,_,hn6⟩
         have hNO:=hn6 P _ HN3.out HO3.out
         have HM6:=Lib.hid hm6
         have HN6:=Lib.hid hNO.1
         have HO6:=Lib.hid hNO.2
         clear hm6 hn6 hNO HM3 HN3 HO3 HC3 z1 z2 z3 z5 n0 n1 x1 hpon e1 hfx hT hH
         go_wp2
         go_roundw
         case rel=>exact ⟨i+1,_,_,by omega,by go_num,HQL.out,HLE.out,HM6,HAN,HHN,HN6,HO6⟩
         case measure=>simp [intOf];omega
        ·have e1:(frI==x.1)=false:=by rw [beq_eq_false_iff_ne];exact hfx
         have HS:=Lib.hid (hT.out.skip (by rw [HTB.out,decide_eq_false hfx];simp))
         clear HADT hon hfx
         go_wp2
         go_roundw
         case rel=>exact ⟨i+1,m2,q2,by omega,by go_num,hql,hle,HM3,HS,hH,HN3,HO3⟩
         case measure=>simp [intOf];omega
      ·rw [decide_eq_false hon] at hpon HTB
       have HS:=Lib.hid (hT.out.skip (by rw [HTB.out];simp))
       clear HADT hon
       go_wp2
       go_roundw
       case rel=>exact ⟨i+1,m2,q2,by omega,by go_num,hql,hle,HM3,HS,hH,HN3,HO3⟩
       case measure=>simp [intOf];omega
     ·have hi2:¬ (i:Int)<(S.cs.length:Int):=by omega
      have hie:i=S.cs.length:=by omega
      have HE:=Lib.hid (AcT.end (by rw [← hie];exact hT.out))
      clear hie hT
      go_wp2
      go_roundg (2 * (1000-m2.length)+q2.length+1)
      case rel=>exact ⟨m2,q2,hql,Nat.le_refl _,hI,HE,hH⟩
      case measure=>omega
end Go.Proofs.YthhfmppealmblaaGreatDoor
