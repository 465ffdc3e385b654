/-
  A part of the proof: L25, OpenS, Open, OpenA.
-/
import Derived.Test.YthhfmppealmblaaGreatDoorU03
import Derived.Test.YthhfmppealmblaaGreatDoorU01
import Derived.Test.YthhfmppealmblaaGreatDoorQ21
import Derived.Test.YthhfmppealmblaaGreatDoorQ02
import Derived.Deep.Slices
import Derived.Deep.Fields
import Derived.ChangeSame
import Derived.ChangeArms
import Derived.OpenShut
import Derived.Lib.SmallJoins
import Derived.Test.YthhfmppealmblaaGreatDoorCards
import Derived.Test.YthhfmppealmblaaGreatDoorTie
import Derived.Test.YthhfmppealmblaaGreatDoorQ01
import Derived.WalkKit
import Derived.ProofKit
import Derived.Deep.DeepHandedRow
import Derived.Deep.DeepWitnessRowRef
import Derived.Lib.LaidTab
import Derived.LaidMore
import Derived.ShutString
import Derived.Stop.LaidErr
import Derived.MakeChecks
namespace Go.Proofs.YthhfmppealmblaaGreatDoor
open Go.RowKit
def flB (m:List Fa) (k:Nat):List Fa:=m.take k ++ (m.drop k).map flF
theorem flB_len (m:List Fa) (k:Nat):(flB m k).length=m.length:=by
 unfold flB
 rw [List.length_append,List.length_map,List.length_take,List.length_drop]
 omega
theorem flB_at {m:List Fa} {k:Nat} (h:k < m.length) (h2:k < (flB m k).length):(flB m k)[k]=flF m[k]:=by
 have e:(flB m k)[k]?=some (flF m[k]):=by
  unfold flB
  rw [List.getElem?_append_right (by rw [List.length_take]; omega),List.length_take,List.getElem?_map,List.getElem?_drop,show k + (k - min k m.length)=k by omega,List.getElem?_eq_getElem h]
  rfl
 rw [List.getElem?_eq_getElem h2] at e
 exact Option.some.inj e
theorem flB_next {m:List Fa} {k:Nat} (h:k < m.length):flB m (k + 1)=(flB m k).set k m[k]:=by
 unfold flB
 rw [List.take_succ_eq_append_getElem h,List.append_assoc,List.singleton_append]
 have e:m.drop k=m[k] :: m.drop (k + 1):=(List.getElem_cons_drop h).symm
 rw [e,List.map_cons,List.set_append_right _ _ (by rw [List.length_take]; omega)]
 simp only [List.length_take]
 rw [show k - min k m.length=0 by omega,List.set_cons_zero]
theorem fa_kind2 {S:Sp} {B:(Th→Int)→Pp→Bool} {a b:List Ev} {m:List Fa} {c:Int} (h:TwP S B a b m c):∀ f∈m,f.1=1∨f.1=2:=by
 intro f hf
 rcases h with ⟨_,rfl,_⟩ | ⟨_,⟨_,rfl,_⟩ | ⟨_,hm,_,_⟩⟩
 ·cases hf
 ·cases hf
 ·obtain ⟨p,_,h⟩:=List.mem_flatMap.1 (hm.mem_iff.1 hf)
  obtain ⟨x,hx,rfl⟩:=List.mem_map.1 h
  have h1:=(flt_mem hx).2
  have h2:=kdTw_small B a b p x.2.1
  simp only
  omega
theorem fas_box {W:World} {base:Nat} {v:Value} {l:List Fa} (h:W.ownsRow base 52 5 v l.length (faCs l)) (h0:l≠[]):∃ g cap,v = .slice (some ⟨g,0,none⟩) l.length cap∧base≤g ∧
  (∀ k (hk:k < l.length),W.cell? ⟨g,k * 5,none⟩=some (.int .i64 l[k].1)∧W.cell? ⟨g,k * 5 + 1,none⟩=some (.int .i64 l[k].2.1.1)∧W.cell? ⟨g,k * 5 + 2,none⟩=some (.int .i64 l[k].2.1.2)∧W.cell? ⟨g,k * 5 + 3,none⟩=some (.int .i64 l[k].2.2.1)∧W.cell? ⟨g,k * 5 + 4,none⟩=some (.int .i64 l[k].2.2.2)∧W.frozen? ⟨g,k * 5,none⟩=false) ∧
  (∀ k (hk:k < l.length) (t:Int),(W.setCell ⟨g,k * 5,none⟩ (.int .i64 t)).ownsRow base 52 5 v (l.set k (t,l[k].2)).length (faCs (l.set k (t,l[k].2)))):=by
 rcases h.2 with ⟨rfl,e⟩ | ⟨g,cap,cur,rfl,_⟩
 ·exact absurd (List.length_eq_zero_iff.1 e) h0
 ·obtain ⟨h1,h2,h3,_⟩:=EnB.of_row (enc:=faC) (m:=l) h
  refine ⟨g,cap,rfl,h2,fun k hk=>?_,fun k hk t=>?_⟩
  ·have c0:=h1.cell faC_len hk (j:=0) rfl
   have c1:=h1.cell faC_len hk (j:=1) rfl
   have c2:=h1.cell faC_len hk (j:=2) rfl
   have c3:=h1.cell faC_len hk (j:=3) rfl
   have c4:=h1.cell faC_len hk (j:=4) rfl
   exact ⟨c0.1,c1.1,c2.1,c3.1,c4.1,c0.2⟩
  ·have h4:=h1.setk faC_len hk (j:=0) (by omega) (v:=.int .i64 t) (y:=(t,l[k].2)) rfl
   have h5:=h4.row faC_len h2 h3
   rw [List.length_set] at h5 ⊢
   exact h5
theorem clV_eq (p q:Cl):((p.1.1 == q.1.1 && p.1.2 == q.1.2) && (p.2.1 == q.2.1 && p.2.2 == q.2.2))=decide (p=q):=by
 obtain ⟨⟨b,c⟩,d,e⟩:=p
 obtain ⟨⟨b',c'⟩,d',e'⟩:=q
 rw [Bool.eq_iff_iff]
 simp [Prod.mk.injEq]
theorem run_eqCl (b c d e b' c' d' e':Int) (w:World):(binOp .eql 47 (.agg #[.int .i64 b,.int .i64 c,.int .i64 d,.int .i64 e]) (.agg #[.int .i64 b',.int .i64 c',.int .i64 d',.int .i64 e'])).run Tryz.prog w = .ok (.bool ((b == b' && c == c') && (d == d' && e == e'))) w:=by
 rw [run_eql_struct]
 rw [run_equalIn_agg w 9999 47 _ _ (by kernel_rfl) (by kernel_rfl)]
 simp only [Program.fieldsOf,Tryz.underlying47]
 simp [go_sem,Tryz.underlying3,Tryz.underlying2,part]
 by_cases h2:b=b' <;> by_cases h3:c=c' <;> by_cases h4:d=d' <;> by_cases h5:e=e' <;> simp [h2,h3,h4,h5]
theorem eqCl {p q:Cl} {b:Bool} (h:decide (p=q)=b) (w:World):(binOp .eql 47 (.agg #[.int .i64 p.1.1,.int .i64 p.1.2,.int .i64 p.2.1,.int .i64 p.2.2]) (.agg #[.int .i64 q.1.1,.int .i64 q.1.2,.int .i64 q.2.1,.int .i64 q.2.2])).run Tryz.prog w = .ok (.bool b) w:=by rw [run_eqCl,clV_eq,h]
theorem flB_done {m:List Fa} {k:Nat} (h:k < m.length) (h2:k < (flB m (k + 1)).length):(flB m (k + 1))[k]=m[k]:=by
 have e:(flB m (k + 1))[k]?=some m[k]:=by
  unfold flB
  rw [List.getElem?_append_left (by rw [List.length_take]; omega),List.getElem?_take,if_pos (by omega),List.getElem?_eq_getElem h]
 rw [List.getElem?_eq_getElem h2] at e
 exact Option.some.inj e
theorem twp_len2 {S:Sp} {B:(Th→Int)→Pp→Bool} {a b:List Ev} {m:List Fa} {c:Int} (h:TwP S B a b m c):m.length≤1000000:=by
 rcases h with ⟨_,rfl,_⟩ | ⟨_,⟨_,rfl,_⟩ | ⟨h1,h2,_⟩⟩
 ·exact Nat.zero_le _
 ·exact Nat.zero_le _
 ·have:=h2.length_eq
  omega
theorem sdE_few {S:Sp} {B:(Th→Int)→Pp→Bool} {l:List Ev} {R:List Cl} {c:Int} (h:SdE S B l R c) (h0:(recE S l).2=0) (hl:(sndsL S B l).length≤20000):R=sndsL S B l∧c=0:=by
 rcases h with ⟨h1,_⟩ | ⟨_,⟨h1,_,h2⟩ | ⟨_,_,h1⟩⟩
 ·exact absurd h0 h1
 ·exact ⟨h1,h2⟩
 ·omega
set_option maxRecDepth 100000 in
set_option maxHeartbeats 12800000 in
theorem auditTwo_walk (v1 v2 v3 v4:Value) (S:Sp) (la:List Ev) (va:Value) (lb:List Ev) (vb:Value) (w:World) (t:Tabs w) (f:Nat→Value) (hsp:SpRd w v1 v2 v3 v4 f S) (hla:ARd w va 5 (la.map evC)) (hlb:ARd w vb 5 (lb.map evC)) :
  Calls Tryz.prog 7 #[.agg #[v1,v2,v3,v4],va,vb] w (BoR true w):=by
 obtain ⟨B,hB⟩:=sndIs_ex S
 obtain ⟨aa,ca,eva⟩:=hla.evForm
 subst eva
 obtain ⟨ab,cb,evb⟩:=hlb.evForm
 subst evb
 have hal:=(Below.refl _ w).alloc (Nat.le_refl w.heap.size) (.cells #[v1,v2,v3,v4] 27)
 have hk:=Blk.new w 27 #[v1,v2,v3,v4]
 have HGR:=Lib.hid (great_any v1 v2 v3 v4 S f la (.slice aa la.length ca) _ (hsp.later hal) (hla.later hal))
 have HGR2:=Lib.hid (fun (W:World) (hb:Below w.heap.size w W)=>great_any v1 v2 v3 v4 S f lb (.slice ab lb.length cb) W (hsp.later hb) (hlb.later hb))
 have HAW:=Lib.hid (fun (W:World) (hb:Below w.heap.size w W)=>awake_any W (t.below hb))
 have HT:=Lib.hid t
 have HAL:=Lib.hid hal
 have HK:=Lib.hid hk
 have HSP:=Lib.hid hsp
 have HLA:=Lib.hid hla
 have HLB:=Lib.hid hlb
 have HSB:=Lib.hid hB
 obtain ⟨s0,s1,s2,s3⟩:=hk.four
 clear t hal hk hsp hla hlb hB
 go_enter Tryz.func7,Tryz.ntmps7
 go_wp2_with fail
 refine (HGR.out).mono ?_
 rintro e W ⟨b,rfl,hb0,hb⟩
 have HB1:=Lib.hid (below_step HAL.out hb)
 have HK1:=Lib.hid (HK.out.below hb)
 clear hb HGR HAL HK s0 s1 s2 s3
 cases b with
 | true =>
  clear hb0
  go_wp2_with fail
  refine (HAW.out _ HB1.out).mono ?_
  rintro e W9 ⟨rfl,hb9⟩
  have HB9:=Lib.hid (below_step HB1.out hb9)
  clear hb9
  go_wp2
  go_ret
  exact ⟨rfl,HB9.out⟩
 | false =>
 have HSM:=Lib.hid (hb0 rfl)
 clear hb0
 obtain ⟨s0,s1,s2,s3⟩:=HK1.out.four
 go_wp2_with fail
 refine (HGR2.out W HB1.out).mono ?_
 rintro e W1 ⟨b,rfl,hb0,hb⟩
 have HB2:=Lib.hid (below_step HB1.out hb)
 have HK2:=Lib.hid (HK1.out.below hb)
 clear hb HGR2 HB1 HK1 s0 s1 s2 s3
 cases b with
 | true =>
  clear hb0
  go_wp2_with fail
  refine (HAW.out _ HB2.out).mono ?_
  rintro e W9 ⟨rfl,hb9⟩
  have HB9:=Lib.hid (below_step HB2.out hb9)
  clear hb9
  go_wp2
  go_ret
  exact ⟨rfl,HB9.out⟩
 | false =>
 have HSM2:=Lib.hid (hb0 rfl)
 clear hb0
 have hlen:=HSM.out.len
 have hlen2:=HSM2.out.len
 have hl50:la.length≤50000:=by omega
 have hl52:lb.length≤50000:=by omega
 have HC1:=Lib.hid (rcheck34_any v1 v2 v3 v4 S HSM.out.ok f la (.slice aa la.length ca) W1 (HSP.out.later HB2.out) (by omega) (HLA.out.later HB2.out))
 have HC2:=Lib.hid (fun (W:World) (hb:Below w.heap.size w W)=>rcheck34_any v1 v2 v3 v4 S HSM.out.ok f lb (.slice ab lb.length cb) W (HSP.out.later hb) (by omega) (HLB.out.later hb))
 obtain ⟨ea,hea⟩:∃ q,audE S la=q:=⟨_,rfl⟩
 obtain ⟨eb,heb⟩:∃ q,audE S lb=q:=⟨_,rfl⟩
 rw [hea] at HC1
 rw [heb] at HC2
 have HEA:=Lib.hid hea
 have HEB:=Lib.hid heb
 clear hea heb hlen hlen2
 obtain ⟨s0,s1,s2,s3⟩:=HK2.out.four
 go_wp2_with fail
 refine (HC1.out).mono ?_
 rintro e W2 ⟨rfl,hb⟩
 have HB3:=Lib.hid (below_step HB2.out hb)
 have HK3:=Lib.hid (HK2.out.below hb)
 clear hb HC1 HB2 HK2 s0 s1 s2 s3
 by_cases z1:ea=0
 case neg =>
  have q1:(ea == 0)=false:=by simpa using z1
  have q2:(ea != 0)=true:=by simpa using z1
  clear z1
  go_wp2_with fail
  refine (HAW.out _ HB3.out).mono ?_
  rintro e W9 ⟨rfl,hb9⟩
  have HB9:=Lib.hid (below_step HB3.out hb9)
  clear hb9
  go_wp2
  go_ret
  exact ⟨rfl,HB9.out⟩
 subst z1
 obtain ⟨s0,s1,s2,s3⟩:=HK3.out.four
 go_wp2_with fail
 refine (HC2.out W2 HB3.out).mono ?_
 rintro e W3 ⟨rfl,hb⟩
 have HB4:=Lib.hid (below_step HB3.out hb)
 have HK4:=Lib.hid (HK3.out.below hb)
 clear hb HC2 HB3 HK3 s0 s1 s2 s3
 by_cases z1:eb=0
 case neg =>
  have q1:(eb == 0)=false:=by simpa using z1
  have q2:(eb != 0)=true:=by simpa using z1
  clear z1
  go_wp2_with fail
  refine (HAW.out _ HB4.out).mono ?_
  rintro e W9 ⟨rfl,hb9⟩
  have HB9:=Lib.hid (below_step HB4.out hb9)
  clear hb9
  go_wp2
  go_ret
  exact ⟨rfl,HB9.out⟩
 subst z1
 have hla40:la.length≤40:=by have:=(audE_ok HEA.out).len; have:=HSM.out.len; omega
 have hlb40:lb.length≤40:=by have:=(audE_ok HEB.out).len; have:=HSM2.out.len; omega
 have HCAN:=Lib.hid (can_few HSM.out (audE_ok HEA.out).sp)
 have HAC:=Lib.hid (fun (x:List Ev) (vx:Value) (y:List Ev) (vy:Value) (W:World) (hb:Below w.heap.size w W) (hx:ARd W vx 5 (x.map evC)) (hy:ARd W vy 5 (y.map evC)) (hx5:x.length≤50000) (hy5:y.length≤50000)=>acompare_any v1 v2 v3 v4 S HSM.out.ok f x vx y vy B HSB.out W (HT.out.below hb) (HSP.out.later hb) hx hy hx5 hy5)
 have HSO:=Lib.hid (fun (x:List Ev) (vx:Value) (W:World) (hb:Below w.heap.size w W) (hx:ARd W vx 5 (x.map evC)) (hx5:x.length≤50000)=>sounds31_any v1 v2 v3 v4 S HSM.out.ok f x vx B HSB.out W (HSP.out.later hb) hx hx5)
 obtain ⟨s0,s1,s2,s3⟩:=HK4.out.four
 go_wp2_with fail
 refine (HAC.out la _ la _ W3 HB4.out (HLA.out.later HB4.out) (HLA.out.later HB4.out) hl50 hl50).mono ?_
 rintro e W4 ⟨vo,mo,co,rfl,hro,hco,hb⟩
 obtain ⟨rfl,rfl⟩:=tw_self hco HEA.out
 obtain ⟨a0,c0,rfl⟩:=row_formS hro
 have HB5:=Lib.hid (below_step HB4.out hb)
 have HK5:=Lib.hid (HK4.out.below hb)
 clear hb hro hco HK4 HB4 s0 s1 s2 s3
 obtain ⟨s0,s1,s2,s3⟩:=HK5.out.four
 go_wp2_with fail
 refine (HAC.out la _ lb _ W4 HB5.out (HLA.out.later HB5.out) (HLB.out.later HB5.out) hl50 hl52).mono ?_
 rintro e W5 ⟨vx,mx,cx,rfl,hrx,hcx,hb⟩
 obtain rfl:=tw_few HSB.out hcx HEA.out HEB.out HCAN.out hla40 hlb40
 have HFX:=Lib.hid (ARd.of_fas hrx)
 have hmx:=twp_len2 hcx
 obtain ⟨ax,cax,rfl⟩:=row_formS hrx
 have HCX:=Lib.hid hcx
 have HB6:=Lib.hid (below_step HB5.out hb)
 have HK6:=Lib.hid (HK5.out.below hb)
 clear hb hrx hcx HK5 HB5 s0 s1 s2 s3
 obtain ⟨s0,s1,s2,s3⟩:=HK6.out.four
 go_wp2_with fail
 refine (HAC.out lb _ la _ W5 HB6.out (HLB.out.later HB6.out) (HLA.out.later HB6.out) hl52 hl50).mono ?_
 rintro e W6 ⟨vy,my,cy,rfl,hry,hcy,hb⟩
 obtain ⟨rfl,rfl⟩:=tw_flip HCX.out hcy HEA.out HEB.out
 obtain ⟨ay,cay,rfl⟩:=row_formS hry
 have hfl:(mx.map flF).length=mx.length:=List.length_map ..
 have HR0:=Lib.hid (show W6.ownsRow W5.heap.size 52 5 (.slice ay mx.length cay) (flB mx 0).length (faCs (flB mx 0)) by rw [← hfl]; exact hry)
 have HL0:=Lib.hid (show Below W5.heap.size W5 W6 from hb)
 have HK7:=Lib.hid (HK6.out.below hb)
 have hq9:((mx.length:Int) == (mx.length:Int))=true:=by simp
 rw [hfl]
 clear hb hry hcy s0 s1 s2 s3
 go_wp2
 go_loopw [13] (fun x wr=>∃ (k:Nat),k≤mx.length∧x = .int .i64 k∧RowKit.Hid (wr.ownsRow W5.heap.size 52 5 (.slice ay mx.length cay) (flB mx k).length (faCs (flB mx k)))∧RowKit.Hid (Below W5.heap.size W5 wr)) (fun x _=>mx.length - (intOf x).toNat)
 case atStart=>exact ⟨0,Nat.zero_le _,rfl,HR0,HL0⟩
 clear HR0 HL0
 obtain ⟨k,hk,rfl,hrow,hB⟩:=hrel
 by_cases hkl:k < mx.length
 ·have hk2:(k:Int) < (mx.length:Int):=by omega
  have hke:k < (flB mx k).length:=by rw [flB_len]; exact hkl
  have hne:flB mx k≠[]:=fun e=>by rw [e] at hke; cases hke
  obtain ⟨g,cap,ev,hg,hcs,hput⟩:=fas_box hrow.out hne
  rw [flB_len] at ev
  cases ev
  obtain ⟨y0,y1,y2,y3,y4,f0⟩:=hcs k hke
  have hkd:=fa_kind2 HCX.out _ (List.getElem_mem hkl)
  have HNX:=Lib.hid (flB_next hkl)
  have hrow2:=hput k hke mx[k].1
  rw [flB_at hkl hke] at y0 y1 y2 y3 y4 hrow2
  obtain ⟨bx,ox,c9,ev9,hbl9,x0,x1,x2,x3,x4⟩:=(HFX.out.later hB.out).faAt k hkl
  cases ev9
  obtain ⟨q,hqn⟩:∃ q,mx[k]=q:=⟨_,rfl⟩
  rw [hqn] at y0 y1 y2 y3 y4 x0 x1 x2 x3 x4 hkd HNX hrow2
  obtain ⟨kd,⟨p1,p2⟩,fr,tt⟩:=q
  have HRS:=Lib.hid (show (wr.setCell ⟨g,k * 5,none⟩ (.int .i64 kd)).ownsRow W5.heap.size 52 5 (.slice (some ⟨g,0,none⟩) mx.length cay) (flB mx (k + 1)).length (faCs (flB mx (k + 1))) by rw [HNX.out]; exact hrow2)
  have hB2:Below W5.heap.size W5 (wr.setCell ⟨g,k * 5,none⟩ (.int .i64 kd)):=hB.out.setCell (p:=⟨g,k * 5,none⟩) hg _
  have hbx:bx < W5.heap.size:=by
   obtain ⟨b',o',c',e',h',_⟩:=HFX.out.faAt k hkl
   cases e'
   exact h'
  have hgx:g≠bx:=by omega
  have hkk:3 - flK kd=kd:=by
   unfold flK
   rcases hkd with e | e <;> simp only at e <;> subst e <;> rfl
  have hks:0≤flK kd∧flK kd≤2:=by
   unfold flK
   rcases hkd with e | e <;> simp only at e <;> subst e <;> decide
  simp only [flF] at y0 y1 y2 y3 y4
  simp only at x0 x1 x2 x3 x4
  obtain ⟨kf,hkf⟩:∃ z,flK kd=z:=⟨_,rfl⟩
  rw [hkf] at y0 hkk hks
  have hst:=fun W=>neFa (p:=(kd,(p1,p2),fr,tt)) (q:=(kd,(p1,p2),fr,tt)) (decide_eq_true rfl) W
  dsimp only at hst
  have HB9:=Lib.hid hB2
  have HQN:=Lib.hid hqn
  clear hcs hput hrow2 hqn hkf hkd HNX hB2
  go_upto_region 12 with fail
  try rw [hkk]
  generalize wr.setCell ⟨g,k * 5,none⟩ (.int .i64 kd)=Wq at *
  have hke2:k < (flB mx (k + 1)).length:=by rw [flB_len]; exact hkl
  have hne2:flB mx (k + 1)≠[]:=fun e=>by rw [e] at hke2; cases hke2
  obtain ⟨g2,cap2,ev2,_,hcs2,_⟩:=fas_box HRS.out hne2
  rw [flB_len] at ev2
  cases ev2
  obtain ⟨z0,z1,z2,z3,z4,_⟩:=hcs2 k hke2
  rw [flB_done hkl hke2,HQN.out] at z0 z1 z2 z3 z4
  obtain ⟨bx',ox',c9',ev9',hbl9',w0,w1,w2,w3,w4⟩:=(HFX.out.later HB9.out).faAt k hkl
  cases ev9'
  rw [HQN.out] at w0 w1 w2 w3 w4
  simp only at z0 z1 z2 z3 z4 w0 w1 w2 w3 w4
  clear hcs2 x0 x1 x2 x3 x4 y0 y1 y2 y3 y4 f0 hrow hB
  go_quiet (fail)
  go_wp2
  go_roundw
  case rel=>exact ⟨k + 1,by omega,by go_num,Lib.hid (row_later HRS.out (below_drewN (Below.refl _ _) _)),Lib.hid (below_drewN HB9.out _)⟩
  case measure=>simp [intOf]; omega
 have hk2:¬ (k:Int) < (mx.length:Int):=by omega
 have HB7:=Lib.hid (below_step HB6.out hB.out)
 have HK8:=Lib.hid (HK6.out.below hB.out)
 clear hrow hB hk hkl
 obtain ⟨s0,s1,s2,s3⟩:=HK8.out.four
 rename World=>W7
 go_wp2_with fail
 refine (HSO.out la _ W7 HB7.out (HLA.out.later HB7.out) hl50).mono ?_
 rintro e W8 ⟨vp,R,c,rfl,hrp,hcp,hb⟩
 obtain ⟨rfl,rfl⟩:=sdE_few hcp (audE_parts HEA.out).2 (snds_few HSB.out (audE_ok HEA.out) HCAN.out hla40)
 have HRP:=Lib.hid (ARd.of_cls hrp)
 obtain ⟨ap,cp,rfl⟩:=row_formS hrp
 have HB8:=Lib.hid (below_step HB7.out hb)
 have HK9:=Lib.hid (HK8.out.below hb)
 clear hb hrp hcp HB7 HK8 s0 s1 s2 s3
 obtain ⟨s0,s1,s2,s3⟩:=HK9.out.four
 go_wp2_with fail
 refine (HSO.out lb _ W8 HB8.out (HLB.out.later HB8.out) hl52).mono ?_
 rintro e W9 ⟨vq,R,c,rfl,hrq,hcq,hb⟩
 obtain ⟨rfl,rfl⟩:=sdE_few hcq (audE_parts HEB.out).2 (snds_few HSB.out (audE_ok HEB.out) HCAN.out hlb40)
 have HRQ:=Lib.hid (ARd.of_cls hrq)
 have HRP9:=Lib.hid (HRP.out.later hb)
 obtain ⟨aq,cq,rfl⟩:=row_formS hrq
 have HB9:=Lib.hid (below_step HB8.out hb)
 have HEQ:=Lib.hid (tw_equal HSB.out HCX.out HEA.out HEB.out rfl)
 have hrl:=snds_few HSB.out (audE_ok HEA.out) HCAN.out hla40
 have hql:=snds_few HSB.out (audE_ok HEB.out) HCAN.out hlb40
 obtain ⟨P,hP⟩:∃ P,sndsL S B la=P:=⟨_,rfl⟩
 obtain ⟨Q,hQ⟩:∃ Q,sndsL S B lb=Q:=⟨_,rfl⟩
 rw [hP] at HRP9 HEQ hrl ⊢
 rw [hQ] at HRQ HEQ hql ⊢
 have HL0:=Lib.hid (Below.refl W9.heap.size W9)
 obtain ⟨el,hel⟩:∃ e,((P.length:Int) == (Q.length:Int))=e:=⟨_,rfl⟩
 have HY0:=Lib.hid (show el=true→P.length=Q.length∧P.take 0=Q.take 0 from fun h=>by rw [← hel,beq_iff_eq] at h; exact ⟨by omega,rfl⟩)
 have HN0:=Lib.hid (show el=false→P≠Q from fun h q=>by subst q; rw [← hel] at h; simp at h)
 clear hb hrq hcq HB8 HK9 s0 s1 s2 s3 HRP hP hQ
 go_wp2
 try rw [hel]
 clear hel
 go_loopw [18,19] (fun v x wr=>∃ (i:Nat) (e:Bool),i≤P.length∧x = .int .i64 i∧v = .bool e∧RowKit.Hid (e=true→P.length=Q.length∧P.take i=Q.take i)∧RowKit.Hid (e=false→P≠Q)∧RowKit.Hid (Below W9.heap.size W9 wr)) (fun _ x _=>P.length - (intOf x).toNat)
 case atStart=>exact ⟨0,el,Nat.zero_le _,rfl,rfl,HY0,HN0,HL0⟩
 clear HY0 HN0 HL0
 obtain ⟨i,e,hi,rfl,rfl,hY,hN,hB⟩:=hrel
 by_cases hil:i < P.length
 ·have hi2:(i:Int) < (P.length:Int):=by omega
  have d1:decide ((i:Int) < (P.length:Int))=true:=decide_eq_true hi2
  cases e with
  | true =>
   obtain ⟨hpq,hpt⟩:=hY.out rfl
   have hiq:i < Q.length:=by omega
   obtain ⟨b1,o1,c1,ev1,hbl1,x0,x1,x2,x3⟩:=(HRP9.out.later hB.out).clAt i hil
   cases ev1
   obtain ⟨b2,o2,c2,ev2,hbl2,y0,y1,y2,y3⟩:=(HRQ.out.later hB.out).clAt i hiq
   cases ev2
   have hi3:(i:Int) < (Q.length:Int):=by omega
   have HX:=Lib.hid (show P[i]=Q[i]→P.length=Q.length∧P.take (i + 1)=Q.take (i + 1) from fun h=>⟨hpq,by rw [List.take_succ_eq_append_getElem hil,List.take_succ_eq_append_getElem hiq,hpt,h]⟩)
   have HZ:=Lib.hid (show P[i]≠Q[i]→P≠Q from fun h q=>h (by subst q; rfl))
   obtain ⟨⟨⟨p1,p2⟩,p3,p4⟩,hp⟩:∃ x,P[i]=x:=⟨_,rfl⟩
   obtain ⟨⟨⟨q1,q2⟩,q3,q4⟩,hq⟩:∃ x,Q[i]=x:=⟨_,rfl⟩
   rw [hp] at x0 x1 x2 x3 HX HZ
   rw [hq] at y0 y1 y2 y3 HX HZ
   dsimp only at x0 x1 x2 x3 y0 y1 y2 y3
   clear hp hq hpt hY hN hpq hiq
   obtain ⟨bb,hbb⟩:∃ bb,decide ((((p1,p2),p3,p4):Cl)=((q1,q2),q3,q4))=bb:=⟨_,rfl⟩
   have heq:=fun W=>eqCl hbb W
   dsimp only at heq
   have HYY:=Lib.hid (show bb=true→P.length=Q.length∧P.take (i + 1)=Q.take (i + 1) from fun h=>HX.out (of_decide_eq_true (hbb.trans h)))
   have HNN:=Lib.hid (show bb=false→P≠Q from fun h=>HZ.out (of_decide_eq_false (hbb.trans h)))
   clear hbb HX HZ
   go_upto_region 20 with fail
   go_quiet (fail)
   have HW9:=Lib.hid (below_drewN hB.out nq)
   go_wp2
   go_roundw
   case rel=>exact ⟨i + 1,bb,by omega,by go_num,rfl,HYY,HNN,HW9⟩
   case measure=>simp [intOf]; omega
  | false =>
   have HNE:=Lib.hid (hN.out rfl)
   have hmz:mx≠[]:=fun h=>HNE.out (HEQ.out.2 h)
   have hmp:=List.length_pos_iff.2 hmz
   have q5:((mx.length:Int) == 0)=false:=by rw [beq_eq_false_iff_ne]; omega
   have HBF:=Lib.hid (below_step HB9.out hB.out)
   clear hmz hmp hY hN hB
   go_wp2_with fail
   refine (HAW.out _ HBF.out).mono ?_
   rintro e Wz ⟨rfl,hbz⟩
   have HBG:=Lib.hid (below_step HBF.out hbz)
   clear hbz
   go_wp2
   go_ret
   exact ⟨rfl,HBG.out⟩
 have hi2:¬ (i:Int) < (P.length:Int):=by omega
 have d1:decide ((i:Int) < (P.length:Int))=false:=decide_eq_false hi2
 have HBF:=Lib.hid (below_step HB9.out hB.out)
 cases e with
 | true =>
  have hPQ:P=Q:=by
   obtain ⟨h1,h2⟩:=hY.out rfl
   rw [List.take_of_length_le (by omega),List.take_of_length_le (by omega)] at h2
   exact h2
  have hmz:mx=[]:=HEQ.out.1 hPQ
  have q5:((mx.length:Int) == 0)=true:=by rw [hmz]; rfl
  clear hmz hPQ hY hN hB
  go_wp2_with fail
  refine (HAW.out _ HBF.out).mono ?_
  rintro e Wz ⟨rfl,hbz⟩
  have HBG:=Lib.hid (below_step HBF.out hbz)
  clear hbz
  go_wp2
  go_ret
  exact ⟨rfl,HBG.out⟩
 | false =>
  have hmz:mx≠[]:=fun h=>hN.out rfl (HEQ.out.2 h)
  have hmp:=List.length_pos_iff.2 hmz
  have q5:((mx.length:Int) == 0)=false:=by rw [beq_eq_false_iff_ne]; omega
  clear hmz hmp hY hN hB
  go_wp2_with fail
  refine (HAW.out _ HBF.out).mono ?_
  rintro e Wz ⟨rfl,hbz⟩
  have HBG:=Lib.hid (below_step HBF.out hbz)
  clear hbz
  go_wp2
  go_ret
  exact ⟨rfl,HBG.out⟩
end Go.Proofs.YthhfmppealmblaaGreatDoor
namespace Go.Proofs.YthhfmppealmblaaGreatDoor
open Go.ChangeShapes Go.WideShapes Go.RowKit Go.Deep
theorem spot_none {w:World} {a:Addr} {v:Value} (h:w.cell? a=some v):a=⟨a.block,a.off,none⟩:=by
 obtain ⟨b,o,s⟩:=a
 cases s with
 | none=>rfl
 | some x =>
  unfold World.cell? at h
  split at h
  ·simp at h
  ·cases h
theorem add_at (b o n:Nat):(⟨b,o,none⟩:Addr).add n=⟨b,o + n,none⟩:=by
 unfold Addr.add
 split
 ·next h=>subst h; rfl
 ·rfl
theorem wf_i64 {a:Int} (h:(Lit.int .i64 a).wf=true):i64 a:=by
 have h2:IntKind.i64.min≤a∧a≤IntKind.i64.max:=by simpa only [Lit.wf,Bool.and_eq_true,decide_eq_true_eq] using h
 have e1:IntKind.i64.min = -9223372036854775808:=rfl
 have e2:IntKind.i64.max=9223372036854775807:=rfl
 unfold i64
 omega
section
variable {H : Type} {enc : TypeId × Value → H} {P : Program} {w : World} {base : Nat} {spare : Nat → Bool} {held : Bool}
theorem fld {t:TypeId} {fs:Array Field} {n:Nat} {cs:List Value} {y:DataW H × List MemPlace} (ht:P.underlying t=some (.struct fs)) (h:DataW.trod enc P w base spare held n t cs=some y) (i:Nat) (f:Field) (hf:fs[i]?=some f) :
  ∃ (m:Nat) (z:DataW H × List MemPlace),DataW.trod enc P w base spare held m f.type ((cs.drop f.offset).take (P.cellsOf f.type))=some z:=by
 obtain ⟨xs,m,_,_,_,hl,hx⟩:=DataW.trod_struct ht h
 have hi:=(Array.getElem?_eq_some_iff.1 hf).1
 exact ⟨m,_,(hx i f hf).trans (List.getElem?_eq_getElem (by omega))⟩
theorem fld_int {t:TypeId} {fs:Array Field} {n:Nat} {cs:List Value} {y:DataW H × List MemPlace} (ht:P.underlying t=some (.struct fs)) (h:DataW.trod enc P w base spare held n t cs=some y) (i:Nat) (f:Field) (hf:fs[i]?=some f)
  (hu:P.underlying f.type=some (.int .i64)):∃ z:Int,cs[f.offset]?=some (.int .i64 z)∧i64 z:=by
 obtain ⟨m,z,hz⟩:=fld ht h i f hf
 obtain ⟨k,hk,_,hw⟩:=DataW.trod_int hu hz
 refine ⟨k,?_,wf_i64 hw⟩
 have h0:((cs.drop f.offset).take (P.cellsOf f.type))[0]?=some (.int .i64 k):=by rw [hk]; rfl
 rw [List.getElem?_take] at h0
 split at h0
 ·rw [List.getElem?_drop,Nat.add_zero] at h0; exact h0
 ·cases h0
theorem fld_string {t:TypeId} {fs:Array Field} {n:Nat} {cs:List Value} {y:DataW H × List MemPlace} (ht:P.underlying t=some (.struct fs)) (h:DataW.trod enc P w base spare held n t cs=some y) (i:Nat) (f:Field) (hf:fs[i]?=some f)
  (hu:P.underlying f.type=some .string):∃ z:ByteArray,cs[f.offset]?=some (.string z):=by
 obtain ⟨m,z,hz⟩:=fld ht h i f hf
 obtain ⟨k,hk,_,hw⟩:=DataW.trod_string hu hz
 refine ⟨k,?_⟩
 have h0:((cs.drop f.offset).take (P.cellsOf f.type))[0]?=some (.string k):=by rw [hk]; rfl
 rw [List.getElem?_take] at h0
 split at h0
 ·rw [List.getElem?_drop,Nat.add_zero] at h0; exact h0
 ·cases h0
theorem fld_bool {t:TypeId} {fs:Array Field} {n:Nat} {cs:List Value} {y:DataW H × List MemPlace} (ht:P.underlying t=some (.struct fs)) (h:DataW.trod enc P w base spare held n t cs=some y) (i:Nat) (f:Field) (hf:fs[i]?=some f)
  (hu:P.underlying f.type=some .bool):∃ z:Bool,cs[f.offset]?=some (.bool z):=by
 obtain ⟨m,z,hz⟩:=fld ht h i f hf
 obtain ⟨k,hk,_⟩:=DataW.trod_bool hu hz
 refine ⟨k,?_⟩
 have h0:((cs.drop f.offset).take (P.cellsOf f.type))[0]?=some (.bool k):=by rw [hk]; rfl
 rw [List.getElem?_take] at h0
 split at h0
 ·rw [List.getElem?_drop,Nat.add_zero] at h0; exact h0
 ·cases h0
theorem fld_two {t:TypeId} {fs gs:Array Field} {n:Nat} {cs:List Value} {y:DataW H × List MemPlace} (ht:P.underlying t=some (.struct fs)) (h:DataW.trod enc P w base spare held n t cs=some y) (i:Nat) (f f0 f1:Field) (hf:fs[i]?=some f)
  (hu:P.underlying f.type=some (.struct gs)) (h0:gs[0]?=some f0) (h1:gs[1]?=some f1) (u0:P.underlying f0.type=some (.int .i64)) (u1:P.underlying f1.type=some (.int .i64)) :
  ∃ a b:Int,cs[f.offset + f0.offset]?=some (.int .i64 a)∧cs[f.offset + f1.offset]?=some (.int .i64 b)∧i64 a∧i64 b:=by
 obtain ⟨m,z,hz⟩:=fld ht h i f hf
 obtain ⟨a,ha,wa⟩:=fld_int hu hz 0 f0 h0 u0
 obtain ⟨b,hb,wb⟩:=fld_int hu hz 1 f1 h1 u1
 refine ⟨a,b,?_,?_,wa,wb⟩
 ·rw [List.getElem?_take] at ha
  split at ha
  ·rw [List.getElem?_drop] at ha; exact ha
  ·cases ha
 ·rw [List.getElem?_take] at hb
  split at hb
  ·rw [List.getElem?_drop] at hb; exact hb
  ·cases hb
theorem len_struct {t:TypeId} {fs:Array Field} {n:Nat} {cs:List Value} {y:DataW H × List MemPlace} (ht:P.underlying t=some (.struct fs)) (h:DataW.trod enc P w base spare held n t cs=some y):cs.length=P.cellsOf t:=by
 obtain ⟨xs,m,_,_,hl,_⟩:=DataW.trod_struct ht h
 exact hl
theorem slice_rows {α:Type} {t e:TypeId} {fuel k:Nat} {cs:List Value} {x:DataW H × List MemPlace} (cells:α→List Value) (Good:α→Prop) (ht:P.underlying t=some (.slice e)) (hC:P.cellsOf e=k) (hk:0 < k)
  (each:∀ n cs' y,DataW.trod enc P w base spare held n e cs'=some y→∃ r:α,cs'=cells r∧Good r) (h:DataW.trod enc P w base spare held fuel t cs=some x) :
  ∃ (v:Value) (rows:List α),cs=[v]∧ARd w v k (rows.map cells)∧∀ r∈rows,Good r:=by
 rcases open_slice ht h with ⟨hc,_⟩ | ⟨a,len,cap,m,n,D,Pl,hc,_,hlc,_,hm,_,hi⟩
 ·exact ⟨_,[],hc,⟨none,0,rfl,fun i h=>absurd h (Nat.not_lt_zero i)⟩,fun r h=>by cases h⟩
 ·rw [hC] at hi
  have hml:len≤m:=by rw [hm]; split <;> omega
  have pick:∀ i:Fin len,∃ r:α,w.cells? base (a.add (i.val * k)) k=some (cells r)∧Good r:=fun i=>by
   obtain ⟨cs',h1,h2⟩:=hi i.val (by omega)
   obtain ⟨r,hr,hg⟩:=each _ _ _ h2
   exact ⟨r,by rw [h1,hr],hg⟩
  obtain ⟨rows,hlen,hrow⟩:∃ rows:List α,rows.length=len∧∀ i (h:i < rows.length),w.cells? base (a.add (i * k)) k=some (cells rows[i])∧Good rows[i]:=by
   refine ⟨List.ofFn fun i:Fin len=>Classical.choose (pick i),by simp,fun i h=>?_⟩
   have hil:i < len:=by simpa using h
   simp only [List.getElem_ofFn]
   exact Classical.choose_spec (pick ⟨i,hil⟩)
  refine ⟨_,rows,hc,⟨some a,cap,by simp [hlen],fun i hi'=>?_⟩,fun r hr=>?_⟩
  ·have hil:i < rows.length:=by simpa using hi'
   obtain ⟨_,hl,hcell⟩:=World.cells?_some (hrow i hil).1
   obtain ⟨_,hl0,hcell0⟩:=World.cells?_some (hrow 0 (by omega)).1
   have h1:=hcell0 0 hk
   rw [Nat.zero_mul] at h1
   obtain ⟨u0,hu0⟩:∃ u,(cells rows[0])[0]?=some u:=⟨_,List.getElem?_eq_getElem (show 0 < (cells rows[0]).length by omega)⟩
   rw [hu0] at h1
   have h1:w.cell? a=some u0:=h1
   have hs:=spot_none h1
   refine ⟨a.block,a.off,by rw [← hs],cell_size h1,fun j u hj=>?_⟩
   rw [List.getElem_map] at hj
   have hjk:j < k:=by
    have:=(List.getElem?_eq_some_iff.1 hj).1
    omega
   have h2:=hcell j hjk
   rw [hs,add_at,add_at] at h2
   rw [h2]
   exact hj
  ·obtain ⟨i,hi',rfl⟩:=List.mem_iff_getElem.1 hr
   exact (hrow i hi').2
end
theorem list3 {cs:List Value} {a b c:Value} (hl:cs.length=3) (h0:cs[0]?=some a) (h1:cs[1]?=some b) (h2:cs[2]?=some c):cs=[a,b,c]:=by
 match cs,hl with
 | [_,_,_],_=>simp at h0 h1 h2; rw [h0,h1,h2]
theorem list4 {cs:List Value} {a b c d:Value} (hl:cs.length=4) (h0:cs[0]?=some a) (h1:cs[1]?=some b) (h2:cs[2]?=some c) (h3:cs[3]?=some d):cs=[a,b,c,d]:=by
 match cs,hl with
 | [_,_,_,_],_=>simp at h0 h1 h2 h3; rw [h0,h1,h2,h3]
theorem list5 {cs:List Value} {a b c d e:Value} (hl:cs.length=5) (h0:cs[0]?=some a) (h1:cs[1]?=some b) (h2:cs[2]?=some c) (h3:cs[3]?=some d) (h4:cs[4]?=some e):cs=[a,b,c,d,e]:=by
 match cs,hl with
 | [_,_,_,_,_],_=>simp at h0 h1 h2 h3 h4; rw [h0,h1,h2,h3,h4]
theorem list6 {cs:List Value} {a b c d e f:Value} (hl:cs.length=6) (h0:cs[0]?=some a) (h1:cs[1]?=some b) (h2:cs[2]?=some c) (h3:cs[3]?=some d) (h4:cs[4]?=some e) (h5:cs[5]?=some f):cs=[a,b,c,d,e,f]:=by
 match cs,hl with
 | [_,_,_,_,_,_],_=>simp at h0 h1 h2 h3 h4 h5; rw [h0,h1,h2,h3,h4,h5]
section
variable {H : Type} {enc : TypeId × Value → H} {W : World} {base : Nat} {spare : Nat → Bool} {held : Bool}
theorem cO_dv:Tryz.prog.cellsOf 84=3:=by kernel_rfl
theorem cO_rk:Tryz.prog.cellsOf 107=6:=by kernel_rfl
theorem cO_st:Tryz.prog.cellsOf 151=5:=by kernel_rfl
theorem cO_pt:Tryz.prog.cellsOf 148=4:=by kernel_rfl
theorem cO_cp:Tryz.prog.cellsOf 153=6:=by kernel_rfl
theorem dv_open (n:Nat) (cs:List Value) (y:DataW H × List MemPlace) (h:DataW.trod enc Tryz.prog W base spare held n 84 cs=some y):∃ d:Dv,cs=dvC d∧i64 d.lo∧i64 d.hi:=by
 have hl:=(len_struct Tryz.underlying84 h).trans cO_dv
 obtain ⟨a,ha⟩:=fld_string Tryz.underlying84 h 0 _ rfl Tryz.underlying9
 obtain ⟨b,hb,wb⟩:=fld_int Tryz.underlying84 h 1 _ rfl Tryz.underlying3
 obtain ⟨c,hc,wc⟩:=fld_int Tryz.underlying84 h 2 _ rfl Tryz.underlying3
 exact ⟨⟨a,b,c⟩,list3 hl ha hb hc,wb,wc⟩
theorem pt_open (n:Nat) (cs:List Value) (y:DataW H × List MemPlace) (h:DataW.trod enc Tryz.prog W base spare held n 148 cs=some y):∃ p:Pt,cs=ptC p∧i64 p.rank∧i64 p.shift∧i64 p.lo∧i64 p.hi:=by
 have hl:=(len_struct Tryz.underlying148 h).trans cO_pt
 obtain ⟨a,ha,wa⟩:=fld_int Tryz.underlying148 h 0 _ rfl Tryz.underlying3
 obtain ⟨b,hb,wb⟩:=fld_int Tryz.underlying148 h 1 _ rfl Tryz.underlying3
 obtain ⟨c,hc,wc⟩:=fld_int Tryz.underlying148 h 2 _ rfl Tryz.underlying3
 obtain ⟨d,hd,wd⟩:=fld_int Tryz.underlying148 h 3 _ rfl Tryz.underlying3
 exact ⟨⟨a,b,c,d⟩,list4 hl ha hb hc hd,wa,wb,wc,wd⟩
theorem rk_open (n:Nat) (cs:List Value) (y:DataW H × List MemPlace) (h:DataW.trod enc Tryz.prog W base spare held n 107 cs=some y):∃ r:Rk,cs=rkC r∧i64 r.kind∧i64 r.num∧i64 r.den∧i64 r.low∧i64 r.cnt:=by
 have hl:=(len_struct Tryz.underlying107 h).trans cO_rk
 obtain ⟨a,ha⟩:=fld_string Tryz.underlying107 h 0 _ rfl Tryz.underlying9
 obtain ⟨b,hb,wb⟩:=fld_int Tryz.underlying107 h 1 _ rfl Tryz.underlying3
 obtain ⟨c,d,hc,hd,wc,wd⟩:=fld_two Tryz.underlying107 h 2 _ _ _ rfl Tryz.underlying105 rfl rfl Tryz.underlying3 Tryz.underlying3
 obtain ⟨e,he,we⟩:=fld_int Tryz.underlying107 h 3 _ rfl Tryz.underlying3
 obtain ⟨f,hf,wf⟩:=fld_int Tryz.underlying107 h 4 _ rfl Tryz.underlying3
 exact ⟨⟨a,b,c,d,e,f⟩,list6 hl ha hb hc hd he hf,wb,wc,wd,we,wf⟩
theorem cp_open (n:Nat) (cs:List Value) (y:DataW H × List MemPlace) (h:DataW.trod enc Tryz.prog W base spare held n 153 cs=some y):∃ r:Cp,cs=cpC r∧i64 r.frm∧i64 r.to∧i64 r.shift∧i64 r.only:=by
 have hl:=(len_struct Tryz.underlying153 h).trans cO_cp
 obtain ⟨a,ha⟩:=fld_string Tryz.underlying153 h 0 _ rfl Tryz.underlying9
 obtain ⟨b,hb,wb⟩:=fld_int Tryz.underlying153 h 1 _ rfl Tryz.underlying3
 obtain ⟨c,hc,wc⟩:=fld_int Tryz.underlying153 h 2 _ rfl Tryz.underlying3
 obtain ⟨d,hd,wd⟩:=fld_int Tryz.underlying153 h 3 _ rfl Tryz.underlying3
 obtain ⟨e,he,we⟩:=fld_int Tryz.underlying153 h 4 _ rfl Tryz.underlying3
 obtain ⟨f,hf⟩:=fld_bool Tryz.underlying153 h 5 _ rfl Tryz.underlying4
 exact ⟨⟨a,b,c,d,e,f⟩,list6 hl ha hb hc hd he hf,wb,wc,wd,we⟩
theorem st_open (n:Nat) (cs:List Value) (y:DataW H × List MemPlace) (h:DataW.trod enc Tryz.prog W base spare held n 151 cs=some y) :
  ∃ r:St × Value,cs=stC r.1 r.2∧i64 r.1.div∧i64 r.1.num∧i64 r.1.den∧ARd W r.2 4 (r.1.parts.map ptC)∧∀ p∈r.1.parts,i64 p.rank∧i64 p.shift∧i64 p.lo∧i64 p.hi:=by
 have hl:=(len_struct Tryz.underlying151 h).trans cO_st
 obtain ⟨a,ha⟩:=fld_string Tryz.underlying151 h 0 _ rfl Tryz.underlying9
 obtain ⟨b,hb,wb⟩:=fld_int Tryz.underlying151 h 1 _ rfl Tryz.underlying3
 obtain ⟨c,d,hc,hd,wc,wd⟩:=fld_two Tryz.underlying151 h 2 _ _ _ rfl Tryz.underlying105 rfl rfl Tryz.underlying3 Tryz.underlying3
 obtain ⟨m,z,hz⟩:=fld Tryz.underlying151 h 3 _ rfl
 obtain ⟨v,ps,hv,hps,hg⟩:=slice_rows ptC (fun p=>i64 p.rank∧i64 p.shift∧i64 p.lo∧i64 p.hi) Tryz.underlying149 cO_pt (by omega) pt_open hz
 have h4:cs[4]?=some v:=by
  have h0:=congrArg (fun l=>l[0]?) hv
  simp only [List.getElem?_take] at h0
  split at h0
  ·rw [List.getElem?_drop] at h0; exact h0
  ·cases h0
 exact ⟨(⟨a,b,c,d,ps⟩,v),list5 hl ha hb hc hd h4,wb,wc,wd,hps,hg⟩
set_option maxRecDepth 100000 in
theorem spec_open {b0:Nat} {r:Reach} {v:Value} {d:DataW H} {p:List MemPlace} (hv:Value.okWide Tryz.prog W r b0 27 v) (h:DataW.Trod enc Tryz.prog W base spare held 27 v d p) :
  ∃ (v1 v2 v3 v4:Value) (S:Sp) (f:Nat→Value),v = .agg #[v1,v2,v3,v4]∧SpRd W v1 v2 v3 v4 f S∧SpInt S:=by
 obtain ⟨v1,v2,v3,v4,y1,y2,y3,y4,n,rfl,_,_,e1,e2,e3,e4⟩:=Go.Joins.open_agg4 Tryz.underlying27 (by kernel_rfl) (by kernel_rfl) hv h
 obtain ⟨u1,ds,h1,r1,g1⟩:=slice_rows dvC (fun d=>i64 d.lo∧i64 d.hi) Tryz.underlying22 cO_dv (by omega) dv_open e1
 obtain ⟨u2,rs,h2,r2,g2⟩:=slice_rows rkC (fun r=>i64 r.kind∧i64 r.num∧i64 r.den∧i64 r.low∧i64 r.cnt) Tryz.underlying23 cO_rk (by omega) rk_open e2
 obtain ⟨u3,ss,h3,r3,g3⟩:=slice_rows (fun r:St × Value=>stC r.1 r.2) (fun r=>i64 r.1.div∧i64 r.1.num∧i64 r.1.den∧ARd W r.2 4 (r.1.parts.map ptC)∧∀ p∈r.1.parts,i64 p.rank∧i64 p.shift∧i64 p.lo∧i64 p.hi) Tryz.underlying24 cO_st (by omega) st_open e3
 obtain ⟨u4,cps,h4,r4,g4⟩:=slice_rows cpC (fun r=>i64 r.frm∧i64 r.to∧i64 r.shift∧i64 r.only) Tryz.underlying25 cO_cp (by omega) cp_open e4
 obtain rfl:v1=u1:=by simpa using h1
 obtain rfl:v2=u2:=by simpa using h2
 obtain rfl:v3=u3:=by simpa using h3
 obtain rfl:v4=u4:=by simpa using h4
 refine ⟨v1,v2,v3,v4,⟨ds,rs,ss.map (fun r=>r.1),cps⟩,fun i=>(ss.map (fun r=>r.2)).getD i (.int .i64 0),rfl,⟨r1,r2,?_,r4,?_⟩,?_⟩
 ·have e:((ss.map (fun r:St × Value=>r.1)).mapIdx fun i x=>stC x ((ss.map (fun r:St × Value=>r.2)).getD i (.int .i64 0)))=ss.map fun r=>stC r.1 r.2:=by
   apply List.ext_getElem
   ·simp
   ·intro i h1 h2
    have hi:i < ss.length:=by simpa using h2
    simp [hi]
  show ARd W v3 5 ((ss.map (fun r:St × Value=>r.1)).mapIdx _)
  rw [e]
  exact r3
 ·intro i hi
  have hi':i < ss.length:=by simpa using hi
  have hg:=(g3 ss[i] (List.getElem_mem hi')).2.2.2.1
  have e1:((ss.map (fun r:St × Value=>r.2)).getD i (.int .i64 0))=ss[i].2:=by simp [hi']
  have e2:(ss.map (fun r:St × Value=>r.1))[i]'hi=ss[i].1:=by simp
  show ARd W ((ss.map (fun r:St × Value=>r.2)).getD i (.int .i64 0)) 4 (((ss.map (fun r:St × Value=>r.1))[i]'hi).parts.map ptC)
  rw [e1,e2]
  exact hg
 ·refine ⟨g1,g2,fun x hx=>?_,fun x hx p hp=>?_,g4⟩
  ·obtain ⟨r,hr,rfl⟩:=List.mem_map.1 hx
   exact ⟨(g3 r hr).1,(g3 r hr).2.1,(g3 r hr).2.2.1⟩
  ·obtain ⟨r,hr,rfl⟩:=List.mem_map.1 hx
   exact (g3 r hr).2.2.2.2 p hp
end
end Go.Proofs.YthhfmppealmblaaGreatDoor
namespace Go.Proofs.YthhfmppealmblaaGreatDoor
open Go.ChangeShapes Go.WideShapes Go.ChangeAt Go.ChangeMaps Go.RowKit
theorem own:ownKnob Tryz.prog.godebug=none:=by kernel_rfl
theorem lays:laidOutB Tryz.prog=true:=by kernel_rfl
theorem gPow:Tryz.prog.globalNamed "internal/strconv.uint64pow10"=some 0:=by kernel_rfl
theorem yPow:(Tryz.prog.globals[0]?).map (·.type)=some 281:=by kernel_rfl
theorem cPow:Tryz.prog.cellsOf 281=20:=by kernel_rfl
theorem cPow1:Tryz.prog.cellsOf 229=1:=by kernel_rfl
def listT:List (String × DataW Unit):=Rows.auditClaimsRow.laid
theorem tabsT {W:World} (h:laidMetH Tryz.prog listT W):Tabs W where
 pow:=by
  rw [MakeChecks.laidMetH_plain _ _ _ (by kernel_rfl)] at h
  exact Lib.tabIs_of_head gPow yPow Tryz.underlying281 Tryz.underlying229 cPow1 cPow (h.tail.tail)
noncomputable def laidWorld (os:Os):World:=World.doorLaid Tryz.prog 80 os
theorem metT (os:Os) (args:Array Value):laidMet Tryz.prog listT ((laidWorld os).forCall (fun _ _=>0) ⟨#[],args,[]⟩).memory :=
 laidMet_of_run' 8 (by kernel_rfl) (by kernel_rfl)
theorem hasO (os:Os) (args:Array Value):((laidWorld os).forCall (fun _ _=>0) ⟨#[],args,[]⟩).variablesRefB Tryz.prog=true:=by kernel_rfl
theorem restT (os:Os) (args:Array Value):((((laidWorld os).forCall (fun _ _=>0) ⟨#[],args,[]⟩).heap.toList.drop Tryz.prog.globals.size).take ((begin Tryz.prog (fun _ _=>0) default).world.heap.size - Tryz.prog.globals.size)) =
  (begin Tryz.prog (fun _ _=>0) default).world.heap.toList.drop Tryz.prog.globals.size:=by kernel_rfl
end Go.Proofs.YthhfmppealmblaaGreatDoor
namespace Go.Proofs.YthhfmppealmblaaGreatDoor
open Go.ChangeShapes Go.WideShapes Go.ChangeAt Go.ChangeMaps Go.RowKit
section
variable {H : Type} {enc : TypeId × Value → H} {W : World} {base : Nat} {spare : Nat → Bool} {held : Bool}
theorem cP_ev:Tryz.prog.cellsOf 42=5:=by kernel_rfl
theorem ev_open (n:Nat) (cs:List Value) (y:DataW H × List MemPlace) (h:DataW.trod enc Tryz.prog W base spare held n 42 cs=some y):∃ x:Ev,cs=evC x∧True:=by
 have hl:=(len_struct Tryz.underlying42 h).trans cP_ev
 obtain ⟨a,ha,_⟩:=fld_int Tryz.underlying42 h 0 _ rfl Tryz.underlying2
 obtain ⟨b,hb,_⟩:=fld_int Tryz.underlying42 h 1 _ rfl Tryz.underlying3
 obtain ⟨c,hc,_⟩:=fld_int Tryz.underlying42 h 2 _ rfl Tryz.underlying3
 obtain ⟨d,hd,_⟩:=fld_int Tryz.underlying42 h 3 _ rfl Tryz.underlying3
 obtain ⟨e,he,_⟩:=fld_int Tryz.underlying42 h 4 _ rfl Tryz.underlying3
 exact ⟨(a,b,c,d,e),list5 hl ha hb hc hd he,trivial⟩
set_option maxRecDepth 100000 in
theorem rec_open {b0:Nat} {r:Reach} {v:Value} {d:DataW H} {p:List MemPlace} (hv:Value.okWide Tryz.prog W r b0 28 v) (h:DataW.Trod enc Tryz.prog W base spare held 28 v d p) :
  ∃ l:List Ev,ARd W v 5 (l.map evC):=by
 obtain ⟨a0,l0,c0,rfl⟩:=okWide_slice Tryz.underlying28 hv
 obtain ⟨fuel,hf⟩:=h
 obtain ⟨v',l,hc,hr,_⟩:=slice_rows evC (fun _=>True) Tryz.underlying28 cP_ev (by omega) ev_open hf
 simp only [Value.cells,List.cons.injEq,and_true] at hc
 exact ⟨l,by rw [hc]; exact hr⟩
end
end Go.Proofs.YthhfmppealmblaaGreatDoor
