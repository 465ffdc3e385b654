/-
  A part of the proof: WM,WN,VW,DI,WK.
-/
import Derived.Test.YteflhbfgpknabaaGreatDoorB01
import Derived.Test.YteflhbfgpknabaaGreatDoorB06
import Derived.Test.YteflhbfgpknabaaGreatDoorL08
set_option maxRecDepth 100000
set_option maxHeartbeats 12800000
namespace Go.Proofs.YteflhbfgpknabaaGreatDoor
open Go.Lib (hid)
open Go.RowKit Go.Shelf
structure HnF (H:Hn):Prop where
 kn:H.ks.length≤20
 ks:∀ d,d<H.ks.length→(H.ks.getD d []).length≤100
 ss:H.ss.length≤100
 cs:H.cs.length≤100
theorem HnF.sm {H:Hn} (h:HnF H):HnSm H:=⟨by have:=h.kn;omega,fun d=>by
 by_cases hd:d<H.ks.length
 ·have:=h.ks d hd;omega
 ·rw [List.getD_eq_getElem?_getD,List.getElem?_eq_none (by omega)];exact Nat.zero_le _,by have:=h.ss;omega,by have:=h.cs;omega⟩
def NoR (P:Prop) (w:World) (e:Ending) (w':World):Prop:=∃ b,e = .returned (.bool b)∧(b=false→P)∧Below w.heap.size w w'
theorem noR_yes {P:Prop} {w w':World} {v:Value} (hv:v = .bool true) (hb:Below w.heap.size w w'):NoR P w (.returned v) w':=⟨true,by rw [hv],(fun h=>by cases h),hb⟩
theorem noR_no {P:Prop} {w w':World} {v:Value} (hv:v = .bool false) (h:P) (hb:Below w.heap.size w w'):NoR P w (.returned v) w':=⟨false,by rw [hv],(fun _=>h),hb⟩
theorem handful30_any (vk vs vc:Value) (H:Hn) (w:World) (hh:HnRd w vk vs vc H):Calls Tryz.prog 26 #[.agg #[vk,vs,vc]] w (NoR (HnF H) w):=by
 obtain ⟨⟨ka,kc,rfl⟩,⟨sa,sc,rfl⟩,⟨ca,cc,rfl⟩⟩:=hh.forms
 have hb0:Below w.heap.size w (w.alloc (.cells #[.slice ka H.ks.length kc,.slice sa H.ss.length sc,.slice ca H.cs.length cc] 32)):=(Below.refl _ _).alloc (Nat.le_refl _) _
 have HB0:=hid hb0
 have K0:=hid (Blk.new w 32 #[.slice ka H.ks.length kc,.slice sa H.ss.length sc,.slice ca H.cs.length cc])
 have HH:=hid (hh.later hb0)
 clear hb0 hh
 go_enter Tryz.func26,Tryz.ntmps26
 go_upto_region 1 with fail
 generalize w.alloc (.cells #[.slice ka H.ks.length kc,.slice sa H.ss.length sc,.slice ca H.cs.length cc] 32)=W0 at *
 obtain ⟨h0,h1,h2⟩:W0.cell? ⟨w.heap.size,0,none⟩=some (.slice ka H.ks.length kc)∧W0.cell? ⟨w.heap.size,1,none⟩=some (.slice sa H.ss.length sc)∧W0.cell? ⟨w.heap.size,2,none⟩=some (.slice ca H.cs.length cc):=⟨K0.out.cell 0,K0.out.cell 1,K0.out.cell 2⟩
 by_cases l1:20<H.ks.length
 ·have d1:decide ((20:Int)<(H.ks.length:Int))=true:=decide_eq_true (by omega)
  have d2:decide (20<H.ks.length)=true:=decide_eq_true l1
  go_wp2
  go_ret
  exact noR_yes rfl HB0.out
 have d1:decide ((20:Int)<(H.ks.length:Int))=false:=decide_eq_false (by omega)
 have d2:decide (20<H.ks.length)=false:=decide_eq_false l1
 by_cases l2:100<H.ss.length
 ·have d3:decide ((100:Int)<(H.ss.length:Int))=true:=decide_eq_true (by omega)
  have d4:decide (100<H.ss.length)=true:=decide_eq_true l2
  go_wp2
  go_ret
  exact noR_yes rfl HB0.out
 have d3:decide ((100:Int)<(H.ss.length:Int))=false:=decide_eq_false (by omega)
 have d4:decide (100<H.ss.length)=false:=decide_eq_false l2
 by_cases l3:100<H.cs.length
 ·have d5:decide ((100:Int)<(H.cs.length:Int))=true:=decide_eq_true (by omega)
  have d6:decide (100<H.cs.length)=true:=decide_eq_true l3
  go_wp2
  go_ret
  exact noR_yes rfl HB0.out
 have d5:decide ((100:Int)<(H.cs.length:Int))=false:=decide_eq_false (by omega)
 have d6:decide (100<H.cs.length)=false:=decide_eq_false l3
 have HL:=hid (show H.ks.length≤20∧H.ss.length≤100∧H.cs.length≤100 by omega)
 have HV0:Hid (∀ d,d<H.ks.length→d<0→(H.ks.getD d []).length≤100):=hid (fun d _ h=>absurd h (Nat.not_lt_zero d))
 go_wp2
 clear d1 d2 d3 d4 d5 d6 l1 l2 l3 h0 h1 h2
 go_loop [3] (fun x=>∃ i:Nat,i≤H.ks.length∧x = .int .i64 i∧Hid (∀ d,d<H.ks.length→d<i→(H.ks.getD d []).length≤100)) (fun x=>H.ks.length-(intOf x).toNat)
 case atStart=>exact ⟨0,Nat.zero_le _,rfl,HV0⟩
 clear HV0
 obtain ⟨i,hi,rfl,hV⟩:=hrel
 have h0:W0.cell? ⟨w.heap.size,0,none⟩=some (.slice ka H.ks.length kc):=K0.out.cell 0
 by_cases hil:i<H.ks.length
 ·have hi2:(i:Int)<(H.ks.length:Int):=by omega
  have hi20:i<20:=by have:=HL.out;omega
  obtain ⟨g,hg1,hg2⟩:=HH.out.keys
  obtain ⟨bb,o,c,ev,hbl,hc⟩:=hg1.at i (by simpa using hil)
  obtain ⟨ax,ac,ea⟩:=(hg2 i hil).1.form
  rw [List.length_map] at ea
  have k0:=hc 0 (g i) (by simp)
  rw [ea] at k0
  rw [List.length_map,List.length_range] at ev
  cases ev
  obtain ⟨n,hn⟩:∃ n,(H.ks.getD i []).length=n:=⟨_,rfl⟩
  rw [hn] at k0
  have HNV:=hid (show n≤100→∀ d,d<H.ks.length→d<i+1→(H.ks.getD d []).length≤100 from fun h d h1 h2=>by
   rcases Nat.lt_or_ge d i with q | q
   ·exact hV.out d h1 q
   ·have:d=i:=by omega
    subst this
    omega)
  clear hg1 hg2 hc ea hn hV hbl
  simp only [Nat.mul_one,Nat.add_zero] at k0
  by_cases ln:100<n
  ·have d3:decide ((100:Int)<(n:Int))=true:=decide_eq_true (by omega)
   have d4:decide (100<n)=true:=decide_eq_true ln
   clear HNV
   go_wp2
   go_ret
   exact noR_yes rfl HB0.out
  ·have d3:decide ((100:Int)<(n:Int))=false:=decide_eq_false (by omega)
   have d4:decide (100<n)=false:=decide_eq_false ln
   have HN:=hid (HNV.out (by omega))
   clear HNV
   go_wp2
   go_round
   case rel=>exact ⟨i+1,by omega,by go_num,HN⟩
   case measure=>simp [intOf];omega
 ·have hi2:¬ (i:Int)<(H.ks.length:Int):=by omega
  have HN:=hid (show HnF H from ⟨HL.out.1,fun d h=>hV.out d h (by omega),HL.out.2.1,HL.out.2.2⟩)
  go_wp2
  go_ret
  exact noR_no rfl HN.out HB0.out
structure CsM (W:World) (v1 v2 v3 v4 fv vk vs vc tv hv:Value) (fp:Nat→Value) (S:Sp) (F:List Ft) (H:Hn) (L:List Tl) (Hs:List Hn) (gk gs gc gh hk hs hc:Nat→Value):Prop where
 sp:SpRd W v1 v2 v3 v4 fp S
 f:ARd W fv 3 (F.map ftC)
 h:HnRd W vk vs vc H
 t:TlRd W tv L gk gs gc gh
 hs:HnsRd W hv Hs hk hs hc
theorem CsM.later {W W':World} {v1 v2 v3 v4 fv vk vs vc tv hv:Value} {fp:Nat→Value} {S:Sp} {F:List Ft} {H:Hn} {L:List Tl} {Hs:List Hn} {gk gs gc gh hk hs hc:Nat→Value} (h:CsM W v1 v2 v3 v4 fv vk vs vc tv hv fp S F H L Hs gk gs gc gh hk hs hc) (hb:Below W.heap.size W W'):CsM W' v1 v2 v3 v4 fv vk vs vc tv hv fp S F H L Hs gk gs gc gh hk hs hc :=
 ⟨h.sp.later hb,h.f.later hb,h.h.later hb,h.t.later hb,h.hs.later hb⟩
structure FarP (S:Sp) (F:List Ft) (H:Hn) (L:List Tl) (Hs:List Hn):Prop where
 ss:S.ss.length≤40
 cs:S.cs.length≤12
 sp:∀ x∈S.ss,x.parts.length≤20
 ll:L.length≤30
 hl:Hs.length≤30
 fl:F.length≤30
 h:HnF H
 t:∀ t∈L,HnF t.h∧t.l.length≤100
 hs:∀ h∈Hs,HnF h
theorem upto_next30 {α:Type} {l:List α} {p:α→Prop} {k:Nat} (hk:k<l.length) (h:∀ j (h:j<l.length),j<k→p l[j]) (h2:p l[k]):∀ j (h:j<l.length),j<k+1→p l[j]:=by
 intro j hj hjk
 rcases Nat.lt_succ_iff_lt_or_eq.1 hjk with h' | h'
 ·exact h j hj h'
 ·subst h';exact h2
theorem all_upto30 {α:Type} {l:List α} {p:α→Prop} {k:Nat} (hk:l.length≤k) (h:∀ j (h:j<l.length),j<k→p l[j]):∀ x∈l,p x:=by
 intro x hx
 obtain ⟨j,hj,rfl⟩:=List.mem_iff_getElem.1 hx
 exact h j hj (by omega)
theorem far30_any (v1 v2 v3 v4 fv vk vs vc tv hv:Value) (most:Int) (fp:Nat→Value) (S:Sp) (F:List Ft) (H:Hn) (L:List Tl) (Hs:List Hn) (gk gs gc gh hk hs hc:Nat→Value) (w:World) (hm:CsM w v1 v2 v3 v4 fv vk vs vc tv hv fp S F H L Hs gk gs gc gh hk hs hc) (hll:L.length≤9223372036854775807) (hlh:Hs.length≤9223372036854775807) :
  Calls Tryz.prog 7 #[.agg #[v1,v2,v3,v4,fv,vk,vs,vc,tv,.int .i64 most,hv]] w (NoR (FarP S F H L Hs) w):=by
 obtain ⟨⟨a1,c1,rfl⟩,⟨a2,c2,rfl⟩,⟨a3,c3,rfl⟩,⟨a4,c4,rfl⟩⟩:=hm.sp.forms
 obtain ⟨fa,fc,rfl⟩:=hm.f.ftForm
 obtain ⟨⟨ka,kc,rfl⟩,⟨sa,sc,rfl⟩,⟨ca,cc,rfl⟩⟩:=hm.h.forms
 obtain ⟨ta,tc,rfl⟩:=hm.t.form
 obtain ⟨ha,hac,rfl⟩:=hm.hs.form
 obtain ⟨vk,hvk⟩:∃ v,Value.slice ka H.ks.length kc=v:=⟨_,rfl⟩
 obtain ⟨vs,hvs⟩:∃ v,Value.slice sa H.ss.length sc=v:=⟨_,rfl⟩
 obtain ⟨vc,hvc⟩:∃ v,Value.slice ca H.cs.length cc=v:=⟨_,rfl⟩
 obtain ⟨v1,hv1⟩:∃ v,Value.slice a1 S.ds.length c1=v:=⟨_,rfl⟩
 rw [hvk,hvs,hvc,hv1] at hm
 rw [hvk,hvs,hvc,hv1]
 clear hvk hvs hvc hv1
 have hb0:Below w.heap.size w (w.alloc (.cells #[v1,.slice a2 S.rs.length c2,.slice a3 S.ss.length c3,.slice a4 S.cs.length c4,.slice fa F.length fc,vk,vs,vc,.slice ta L.length tc,.int .i64 most,.slice ha Hs.length hac] 36)):=(Below.refl _ _).alloc (Nat.le_refl _) _
 have HB0:=hid hb0
 have K0:=hid (Blk.new w 36 #[v1,.slice a2 S.rs.length c2,.slice a3 S.ss.length c3,.slice a4 S.cs.length c4,.slice fa F.length fc,vk,vs,vc,.slice ta L.length tc,.int .i64 most,.slice ha Hs.length hac])
 have HM:=hid (hm.later hb0)
 clear hb0 hm
 go_enter Tryz.func7,Tryz.ntmps7
 go_upto_region 1 with fail
 generalize w.alloc (.cells #[v1,.slice a2 S.rs.length c2,.slice a3 S.ss.length c3,.slice a4 S.cs.length c4,.slice fa F.length fc,vk,vs,vc,.slice ta L.length tc,.int .i64 most,.slice ha Hs.length hac] 36)=W0 at *
 have h1:W0.cell? ⟨w.heap.size,1,none⟩=some (.slice a2 S.rs.length c2):=K0.out.cell 1
 go_wp2
 go_loop [3,5] (fun u x=>∃ (i:Nat) (p:Int),i≤S.rs.length∧i≤100∧x = .int .i64 i∧u = .int .i64 p∧0≤p∧p≤1000 * i) (fun _ x=>100-(intOf x).toNat)
 case atStart=>exact ⟨0,0,Nat.zero_le _,Nat.zero_le _,rfl,rfl,by omega,by omega⟩
 obtain ⟨i,p,hi,hi2,rfl,rfl,hp1,hp2⟩:=hrel
 by_cases hil:i<S.rs.length∧i<100
 ·obtain ⟨bb,o,c,ev,hbl,r0,r1,r2,r3,r4,r5⟩:=HM.out.sp.rAt i hil.1
  cases ev
  have q1:(i:Int)<(S.rs.length:Int):=by omega
  have q2:(i:Int)<100:=by omega
  obtain ⟨n,hn⟩:∃ n,S.rs[i].cnt=n:=⟨_,rfl⟩
  simp only [hn] at r5
  clear hn hbl
  go_wp2
  go_round
  case rel=>exact ⟨i+1,p+min (max n 0) 1000,by omega,by omega,by go_num,rfl,by omega,by omega⟩
  case measure=>simp [intOf];omega
 have h2:W0.cell? ⟨w.heap.size,2,none⟩=some (.slice a3 S.ss.length c3):=K0.out.cell 2
 obtain ⟨P,HP⟩:∃ P,p=P:=⟨_,rfl⟩
 rw [HP]
 have HPB:=hid (show (0:Int)≤P∧P≤1000000 by omega)
 by_cases q0:i<S.rs.length
 case' pos =>
  have q1:(i:Int)<(S.rs.length:Int):=by omega
  have q2:¬ (i:Int)<100:=by omega
 case' neg =>
  have q1:¬ (i:Int)<(S.rs.length:Int):=by omega
  have q2:i=i:=rfl
 all_goals
  go_wp2
  clear q1 q2 q0 hil hi hi2 hp1 hp2 HP h1
  have HV0:Hid (∀ j (h:j<S.ss.length),j<0→(min S.ss[j].parts.length 1000:Int)≤0):=hid (fun j _ h=>absurd h (Nat.not_lt_zero j))
  go_loop [4,6] (fun u x=>∃ (i:Nat) (p:Int),i≤S.ss.length∧i≤100∧x = .int .i64 i∧u = .int .i64 p∧0≤p∧p≤1000 * i∧Hid (∀ j (h:j<S.ss.length),j<i→(min S.ss[j].parts.length 1000:Int)≤p)) (fun _ x=>100-(intOf x).toNat)
  case atStart=>exact ⟨0,0,Nat.zero_le _,Nat.zero_le _,rfl,rfl,by omega,by omega,HV0⟩
  clear HV0
  obtain ⟨i,p,hi,hi2,rfl,rfl,hp1,hp2,hV⟩:=hrel
  by_cases hil:i<S.ss.length∧i<100
  ·obtain ⟨bb,o,c,ev,hbl,r0,r1,r2,r3,r4⟩:=HM.out.sp.sAt i hil.1
   cases ev
   obtain ⟨ap,cp,efp⟩:=(HM.out.sp.p i hil.1).form
   rw [List.length_map] at efp
   rw [efp] at r4
   clear efp r0 r1 r2 r3 hbl
   have q1:(i:Int)<(S.ss.length:Int):=by omega
   have q2:(i:Int)<100:=by omega
   have HX:=hid (show ∀ m:Nat,S.ss[i].parts.length=m→∀ j (h:j<S.ss.length),j<i+1→(min S.ss[j].parts.length 1000:Int)≤p+min (m:Int) 1000 from fun m hm j h1 h2=>by
    rcases Nat.lt_or_ge j i with q | q
    ·have:=hV.out j h1 q;omega
    ·have:j=i:=by omega
     subst this
     rw [hm]
     omega)
   obtain ⟨m,hm⟩:∃ m,S.ss[i].parts.length=m:=⟨_,rfl⟩
   have HN:=hid (HX.out m hm)
   rw [hm] at r4
   clear hm HX hV
   go_wp2
   go_round
   case rel=>exact ⟨i+1,p+min (m:Int) 1000,by omega,by omega,by go_num,rfl,by omega,by omega,HN⟩
   case measure=>simp [intOf];omega
  have h3:W0.cell? ⟨w.heap.size,3,none⟩=some (.slice a4 S.cs.length c4):=K0.out.cell 3
  have h8:W0.cell? ⟨w.heap.size,8,none⟩=some (.slice ta L.length tc):=K0.out.cell 8
  obtain ⟨R,HR⟩:∃ R,p=R:=⟨_,rfl⟩
  rw [HR]
  have HSS:=hid (show R≤20→S.ss.length≤40→∀ x∈S.ss,x.parts.length≤20 from fun h1 h2=>by
   subst HR
   refine all_upto30 (k:=i) (by omega) (fun j h3 h4=>?_)
   have:=hV.out j h3 h4
   omega)
  have HRB:=hid (show (0:Int)≤R∧R≤1000000 by omega)
  by_cases q0:i<S.ss.length
  case' pos =>
   have q1:(i:Int)<(S.ss.length:Int):=by omega
   have q2:¬ (i:Int)<100:=by omega
  case' neg =>
   have q1:¬ (i:Int)<(S.ss.length:Int):=by omega
   have q2:i=i:=rfl
  all_goals
   go_wp2
   clear q1 q2 q0 hil hi hi2 hp1 hp2 HR h3 h8 h2 hV
   have HV0:Hid (∀ j (h:j<L.length),j<0→HnF L[j].h∧L[j].l.length≤100):=hid (fun j _ h=>absurd h (Nat.not_lt_zero j))
   have HW0:=hid (Below.refl W0.heap.size W0)
   go_loopw [7] (fun x wr=>∃ i:Nat,i≤L.length∧x = .int .i64 i∧Hid (∀ j (h:j<L.length),j<i→HnF L[j].h∧L[j].l.length≤100)∧Hid (Below W0.heap.size W0 wr)) (fun x _=>L.length-(intOf x).toNat)
   case atStart=>exact ⟨0,Nat.zero_le _,rfl,HV0,HW0⟩
   clear HV0 HW0
   obtain ⟨i,hi,rfl,hV,hW⟩:=hrel
   have h8:wr.cell? ⟨w.heap.size,8,none⟩=some (.slice ta L.length tc):=(K0.out.below hW.out).cell 8
   by_cases hil:i<L.length
   ·have q1:(i:Int)<(L.length:Int):=by omega
    obtain ⟨bb,o,c,ev,hbl,r0,r1,r2,r3⟩:=(HM.out.t.later hW.out).at' hil
    cases ev
    obtain ⟨ax,ac,ea⟩:=ppFormI ((HM.out.later hW.out).t.pp i hil)
    rw [ea] at r3
    have HHF:=hid (fun (W:World) (hb:Below W0.heap.size W0 W)=>handful30_any (gk i) (gs i) (gc i) L[i].h W ((HM.out.later hb).t.hd i hil))
    have HX:=hid (show ∀ m:Nat,L[i].l.length=m→HnF L[i].h→m≤100→∀ j (h:j<L.length),j<i+1→HnF L[j].h∧L[j].l.length≤100 from fun m hm h1 h2=>upto_next30 (p:=fun t=>HnF t.h∧t.l.length≤100) hil hV.out ⟨h1,by omega⟩)
    obtain ⟨m,hm⟩:∃ m,L[i].l.length=m:=⟨_,rfl⟩
    have HN:=hid (HX.out m hm)
    rw [hm] at r3
    obtain ⟨Hi,hHi⟩:∃ Hi,L[i].h=Hi:=⟨_,rfl⟩
    rw [hHi] at HHF HN
    clear hm HX hV ea hHi hbl
    by_cases q2:100<m
    ·have d3:decide ((100:Int)<(m:Int))=true:=decide_eq_true (by omega)
     have d4:decide (100<m)=true:=decide_eq_true q2
     have HWE:=hid (below_step HB0.out hW.out)
     go_wp2
     go_ret
     exact noR_yes rfl HWE.out
    have d3:decide ((100:Int)<(m:Int))=false:=decide_eq_false (by omega)
    have d4:decide (100<m)=false:=decide_eq_false q2
    go_wp2_with fail
    refine (HHF.out _ hW.out).mono ?_
    rintro e W1 ⟨bo,rfl,hbo,hb1⟩
    have HW1:=hid (below_step hW.out hb1)
    cases bo with
    | true =>
     have HWE:=hid (below_step HB0.out HW1.out)
     clear hb1
     go_wp2
     go_ret
     exact noR_yes rfl HWE.out
    | false =>
     have HN2:=hid (HN.out (hbo rfl) (by omega))
     clear hb1 HN HHF
     go_wp2
     go_roundw
     case rel=>exact ⟨i+1,by omega,by go_num,HN2,HW1⟩
     case measure=>simp [intOf];omega
   have q1:¬ (i:Int)<(L.length:Int):=by omega
   have HTL:=hid (show ∀ t∈L,HnF t.h∧t.l.length≤100 from all_upto30 (k:=i) (by omega) hV.out)
   have h10:wr.cell? ⟨w.heap.size,10,none⟩=some (.slice ha Hs.length hac):=(K0.out.below hW.out).cell 10
   go_wp2
   clear q1 hil hi h8 h10 hV
   have HV0:Hid (∀ j (h:j<Hs.length),j<0→HnF Hs[j]):=hid (fun j _ h=>absurd h (Nat.not_lt_zero j))
   go_loopw [8] (fun x wr=>∃ i:Nat,i≤Hs.length∧x = .int .i64 i∧Hid (∀ j (h:j<Hs.length),j<i→HnF Hs[j])∧Hid (Below W0.heap.size W0 wr)) (fun x _=>Hs.length-(intOf x).toNat)
   case atStart=>exact ⟨0,Nat.zero_le _,rfl,HV0,hW⟩
   clear HV0 hW
   obtain ⟨i,hi,rfl,hV,hW⟩:=hrel
   have h10:wr.cell? ⟨w.heap.size,10,none⟩=some (.slice ha Hs.length hac):=(K0.out.below hW.out).cell 10
   by_cases hil:i<Hs.length
   ·have q1:(i:Int)<(Hs.length:Int):=by omega
    obtain ⟨bb,o,c,ev,hbl,r0,r1,r2⟩:=(HM.out.hs.later hW.out).at' hil
    cases ev
    have HHF:=hid (handful30_any (hk i) (hs i) (hc i) Hs[i] wr ((HM.out.later hW.out).hs.hd i hil))
    have HN:=hid (show HnF Hs[i]→∀ j (h:j<Hs.length),j<i+1→HnF Hs[j] from fun h1=>upto_next30 (p:=fun t=>HnF t) hil hV.out h1)
    obtain ⟨Hi,hHi⟩:∃ Hi,Hs[i]=Hi:=⟨_,rfl⟩
    rw [hHi] at HHF HN
    clear hV hHi hbl
    go_wp2_with fail
    refine HHF.out.mono ?_
    rintro e W1 ⟨bo,rfl,hbo,hb1⟩
    have HW1:=hid (below_step hW.out hb1)
    cases bo with
    | true =>
     have HWE:=hid (below_step HB0.out HW1.out)
     clear hb1
     go_wp2
     go_ret
     exact noR_yes rfl HWE.out
    | false =>
     have HN2:=hid (HN.out (hbo rfl))
     clear hb1 HN HHF
     go_wp2
     go_roundw
     case rel=>exact ⟨i+1,by omega,by go_num,HN2,HW1⟩
     case measure=>simp [intOf];omega
   have q1:¬ (i:Int)<(Hs.length:Int):=by omega
   have HHS:=hid (show ∀ t∈Hs,HnF t from all_upto30 (k:=i) (by omega) hV.out)
   have HWE:=hid (below_step HB0.out hW.out)
   obtain ⟨e2,e3,e4,e5,e6,e7,e8⟩:wr.cell? ⟨w.heap.size,2,none⟩=some (.slice a3 S.ss.length c3)∧wr.cell? ⟨w.heap.size,3,none⟩=some (.slice a4 S.cs.length c4)∧wr.cell? ⟨w.heap.size,4,none⟩=some (.slice fa F.length fc)∧wr.cell? ⟨w.heap.size,5,none⟩=some vk∧wr.cell? ⟨w.heap.size,6,none⟩=some vs∧wr.cell? ⟨w.heap.size,7,none⟩=some vc∧wr.cell? ⟨w.heap.size,8,none⟩=some (.slice ta L.length tc):=⟨(K0.out.below hW.out).cell 2,(K0.out.below hW.out).cell 3,(K0.out.below hW.out).cell 4,(K0.out.below hW.out).cell 5,(K0.out.below hW.out).cell 6,(K0.out.below hW.out).cell 7,(K0.out.below hW.out).cell 8⟩
   have HHF:=hid (handful30_any vk vs vc H wr (HM.out.later hW.out).h)
   go_upto_region 20 with fail
   clear q1 hil hi hV
   by_cases l0:(100:Int)<P
   ·have dA0:decide ((100:Int)<P)=true:=decide_eq_true l0
    go_wp2
    go_ret
    exact noR_yes rfl HWE.out
   have dA0:decide ((100:Int)<P)=false:=decide_eq_false l0
   by_cases l1:(20:Int)<R
   ·have dA1:decide ((20:Int)<R)=true:=decide_eq_true l1
    go_wp2
    go_ret
    exact noR_yes rfl HWE.out
   have dA1:decide ((20:Int)<R)=false:=decide_eq_false l1
   by_cases l2:40<S.ss.length
   ·have dA2:decide (40<S.ss.length)=true:=decide_eq_true l2
    have dB2:decide ((40:Int)<(S.ss.length:Int))=true:=decide_eq_true (by omega)
    go_wp2
    go_ret
    exact noR_yes rfl HWE.out
   have dA2:decide (40<S.ss.length)=false:=decide_eq_false l2
   have dB2:decide ((40:Int)<(S.ss.length:Int))=false:=decide_eq_false (by omega)
   by_cases l3:12<S.cs.length
   ·have dA3:decide (12<S.cs.length)=true:=decide_eq_true l3
    have dB3:decide ((12:Int)<(S.cs.length:Int))=true:=decide_eq_true (by omega)
    go_wp2
    go_ret
    exact noR_yes rfl HWE.out
   have dA3:decide (12<S.cs.length)=false:=decide_eq_false l3
   have dB3:decide ((12:Int)<(S.cs.length:Int))=false:=decide_eq_false (by omega)
   by_cases l4:30<L.length
   ·have dA4:decide (30<L.length)=true:=decide_eq_true l4
    have dB4:decide ((30:Int)<(L.length:Int))=true:=decide_eq_true (by omega)
    go_wp2
    go_ret
    exact noR_yes rfl HWE.out
   have dA4:decide (30<L.length)=false:=decide_eq_false l4
   have dB4:decide ((30:Int)<(L.length:Int))=false:=decide_eq_false (by omega)
   by_cases l5:30<Hs.length
   ·have dA5:decide (30<Hs.length)=true:=decide_eq_true l5
    have dB5:decide ((30:Int)<(Hs.length:Int))=true:=decide_eq_true (by omega)
    go_wp2
    go_ret
    exact noR_yes rfl HWE.out
   have dA5:decide (30<Hs.length)=false:=decide_eq_false l5
   have dB5:decide ((30:Int)<(Hs.length:Int))=false:=decide_eq_false (by omega)
   by_cases l6:30<F.length
   ·have dA6:decide (30<F.length)=true:=decide_eq_true l6
    have dB6:decide ((30:Int)<(F.length:Int))=true:=decide_eq_true (by omega)
    go_wp2
    go_ret
    exact noR_yes rfl HWE.out
   have dA6:decide (30<F.length)=false:=decide_eq_false l6
   have dB6:decide ((30:Int)<(F.length:Int))=false:=decide_eq_false (by omega)
   have HFP:=hid (show HnF H→FarP S F H L Hs from fun h=>⟨by omega,by omega,HSS.out (by omega) (by omega),by omega,by omega,by omega,h,HTL.out,HHS.out⟩)
   go_wp2_with fail
   refine HHF.out.mono ?_
   rintro e W1 ⟨bo,rfl,hbo,hb1⟩
   have HWF:=hid (below_step HWE.out hb1)
   have HN:=hid (fun q=>HFP.out (hbo q))
   clear hb1 hbo
   go_wp2
   go_ret
   exact ⟨bo,rfl,HN.out,HWF.out⟩
def lsE (S:Sp) (L:List Tl) (most:Int):Int:=if trlE S L≠0 then trlE S L else if 20<S.ss.length∨8<S.cs.length then 3 else if most<0∨3<most then 2 else 0
def LsP (S:Sp) (B:(Th→Int)→Pp→Bool) (L:List Tl) (most:Int) (M:List (List Ft)) (e:Int):Prop:=(lsE S L most≠0∧M=[]∧e=lsE S L most)∨(lsE S L most=0∧LeaP S B (trs L) most.toNat M e)
theorem LsP.one {S:Sp} {B:(Th→Int)→Pp→Bool} {L:List Tl} {most:Int} {M M':List (List Ft)} {e e':Int} (h:LsP S B L most M e) (h':LsP S B L most M' e'):M=M'∧e=e':=by
 rcases h with ⟨h1,h2,h3⟩ | ⟨h1,h2⟩ <;> rcases h' with ⟨k1,k2,k3⟩ | ⟨k1,k2⟩
 ·exact ⟨h2.trans k2.symm,h3.trans k3.symm⟩
 ·exact absurd k1 h1
 ·exact absurd h1 k1
 ·exact h2.one k2
theorem lsE_trl {S:Sp} {L:List Tl} {most:Int} (h:trlE S L≠0):lsE S L most=trlE S L:=if_pos h
theorem lsE_long {S:Sp} {L:List Tl} {most:Int} (h:trlE S L=0) (h2:20<S.ss.length∨8<S.cs.length):lsE S L most=3:=by unfold lsE;rw [if_neg (by omega),if_pos h2]
theorem lsE_arg {S:Sp} {L:List Tl} {most:Int} (h:trlE S L=0) (h2:¬ (20<S.ss.length∨8<S.cs.length)) (h3:most<0∨3<most):lsE S L most=2:=by unfold lsE;rw [if_neg (by omega),if_neg h2,if_pos h3]
theorem lsE_in {S:Sp} {L:List Tl} {most:Int} (h:trlE S L=0) (h2:¬ (20<S.ss.length∨8<S.cs.length)) (h3:¬ (most<0∨3<most)):lsE S L most=0:=by unfold lsE;rw [if_neg (by omega),if_neg h2,if_neg h3]
theorem lsP_bad {S:Sp} {B:(Th→Int)→Pp→Bool} {L:List Tl} {most:Int} {e:Int} (h:lsE S L most=e) (he:e≠0):LsP S B L most [] e:=.inl ⟨by rw [h];exact he,rfl,h.symm⟩
theorem lea_full {S:Sp} {B:(Th→Int)→Pp→Bool} {L:List Tl} {most:Int} (h:lsE S L most=0) {k:Nat} (hk:k≤most.toNat) (hmin:∀ g,FtsOk S g→g.length<k→¬ Exps S B g (trs L)) {M:List (List Ft)} (hM:SetsP S B (trs L) k M) (hl:200<M.length):LsP S B L most [] 5 :=
 .inr ⟨h,.inl ⟨k,hk,hmin,M,hM,(fun e=>by rw [e] at hl;exact absurd hl (by decide)),.inr ⟨hl,rfl,rfl⟩⟩⟩
theorem lea_has {S:Sp} {B:(Th→Int)→Pp→Bool} {L:List Tl} {most:Int} (h:lsE S L most=0) {k:Nat} (hk:k≤most.toNat) (hmin:∀ g,FtsOk S g→g.length<k→¬ Exps S B g (trs L)) {M:List (List Ft)} (hM:SetsP S B (trs L) k M) (hl:¬ 200<M.length) (h0:0<M.length):LsP S B L most M 0 :=
 .inr ⟨h,.inl ⟨k,hk,hmin,M,hM,(fun e=>by rw [e] at h0;exact absurd h0 (by decide)),.inl ⟨by omega,rfl,rfl⟩⟩⟩
theorem lea_next_min {S:Sp} {B:(Th→Int)→Pp→Bool} {L:List Tl} {k:Nat} (hmin:∀ g,FtsOk S g→g.length<k→¬ Exps S B g (trs L)) {M:List (List Ft)} (hM:SetsP S B (trs L) k M) (h0:M.length=0):∀ g,FtsOk S g→g.length<k+1→¬ Exps S B g (trs L):=fun g hg hl hE=>by
 by_cases e:g.length=k
 ·have:=(hM.2 g).2 ⟨hg,e,hE⟩
  rw [List.length_eq_zero_iff.1 h0] at this
  exact absurd this List.not_mem_nil
 ·exact hmin g hg (by omega) hE
theorem lea_none {S:Sp} {B:(Th→Int)→Pp→Bool} {L:List Tl} {most:Int} (h:lsE S L most=0) {k:Nat} (hk:most.toNat<k) (hmin:∀ g,FtsOk S g→g.length<k→¬ Exps S B g (trs L)):LsP S B L most [] 4 :=
 .inr ⟨h,.inr ⟨fun g hg hl=>hmin g hg (by omega),rfl,rfl⟩⟩
def LeaE (S:Sp) (B:(Th→Int)→Pp→Bool) (L:List Tl) (most:Int) (w:World) (e:Ending) (w':World):Prop:=∃ v M g n,e = .returned (.tuple #[v,.int .i64 n])∧LsP S B L most M n∧StO w.heap.size w' v M g∧Below w.heap.size w w'
theorem StO.nil (base:Nat) (W:World):StO base W (.slice none 0 0) [] (fun _ => .nilFunc):=⟨World.ownsRow_nil _ _ _ _,fun i hi=>absurd hi (Nat.not_lt_zero i)⟩
theorem leastD_any (v1 v2 v3 v4:Value) (S:Sp) (ok:SpWk S) (fp:Nat→Value) (L:List Tl) (hsm:∀ t∈L,HnSm t.h∧t.l.length≤1000000) (hll:L.length≤1000000) (tv:Value) (gk gs gc gh:Nat→Value) (B:(Th→Int)→Pp→Bool) (hB:(checkP S).2=0→SndIs S B) (most:Int) (w:World) (hD:Deb w) (ht:Tabs w) (hsp:SpRd w v1 v2 v3 v4 fp S) (hcap:∀ i,i<S.ss.length→CapOk (fp i)) (htv:TlRd w tv L gk gs gc gh) :
  Calls Tryz.prog 11 #[.agg #[v1,v2,v3,v4],tv,.int .i64 most] w (LeaE S B L most w):=by
 obtain ⟨at',ct,ev⟩:=htv.form
 subst ev
 obtain ⟨_,_,⟨a3,c3,rfl⟩,⟨a4,c4,rfl⟩⟩:=hsp.forms
 have HB0:=hid (show Below w.heap.size w (w.alloc (.cells #[v1,v2,.slice a3 S.ss.length c3,.slice a4 S.cs.length c4] 27)) from (Below.refl _ _).alloc (Nat.le_refl _) _)
 have K0:=hid (Blk.new w 27 #[v1,v2,.slice a3 S.ss.length c3,.slice a4 S.cs.length c4])
 have HCS:=hid (fun (W:World) (hb:Below w.heap.size w W)=>checkD_any v1 v2 (.slice a3 S.ss.length c3) (.slice a4 S.cs.length c4) S ok fp L hsm (.slice at' L.length ct) gk gs gc gh W (ht.below hb) (hsp.later hb) (htv.later hb) hll)
 have HSE:=hid (fun (h2:trlE S L=0) (many:Nat) (hm3:many≤3) (hmin:∀ g,FtsOk S g→g.length<many→¬ Exps S B g (trs L)) (W:World) (hb:Below w.heap.size w W)=>setsD_any v1 v2 (.slice a3 S.ss.length c3) (.slice a4 S.cs.length c4) S ok (trlE_ok h2).1 fp L (trl_hands h2) (trlE_ok h2).2.1 (.slice at' L.length ct) gk gs gc gh B (hB (trlE_ok h2).1) many hm3 hmin W (hD.below hb) (ht.below hb) (hsp.later hb) hcap (htv.later hb))
 obtain ⟨s0,s1,s2,s3⟩:=K0.out.four
 clear ok hsp hcap hD ht hB htv hsm
 go_enter Tryz.func11,Tryz.ntmps11
 go_upto_region 1 with fail
 generalize w.alloc (.cells #[v1,v2,.slice a3 S.ss.length c3,.slice a4 S.cs.length c4] 27)=W0 at *
 go_wp2_with fail
 refine (HCS.out _ HB0.out).mono ?_
 rintro e W1 ⟨rfl,hb1⟩
 have HB1:=hid (below_step HB0.out hb1)
 replace K0:=hid (K0.out.below hb1)
 clear hb1 s0 s1 s2 s3 HB0 HCS
 obtain ⟨n,hn⟩:∃ n,trlE S L=n:=⟨_,rfl⟩
 rw [hn]
 by_cases hz:n=0
 case neg =>
  have q1:(n==0)=false:=by simpa using hz
  have q2:(n != 0)=true:=by simpa using hz
  have HE:=hid (lsP_bad (B:=B) (most:=most) ((lsE_trl (by rw [hn];exact hz)).trans hn) hz)
  clear hz hn
  go_wp2
  go_ret2
  exact ⟨_,_,_,_,rfl,HE.out,StO.nil _ _,HB1.out⟩
 subst hz
 have HN:=hid hn
 clear hn
 obtain ⟨s0,s1,s2,s3⟩:=K0.out.four
 by_cases hs:20<S.ss.length
 ·have d1:decide ((20:Int)<(S.ss.length:Int))=true:=decide_eq_true (by omega)
  have d2:decide (20<S.ss.length)=true:=decide_eq_true hs
  have HE:=hid (lsP_bad (B:=B) (lsE_long (most:=most) HN.out (.inl hs)) (by decide))
  clear hs
  go_wp2
  go_ret2
  exact ⟨_,_,_,_,rfl,HE.out,StO.nil _ _,HB1.out⟩
 have d1:decide ((20:Int)<(S.ss.length:Int))=false:=decide_eq_false (by omega)
 have d2:decide (20<S.ss.length)=false:=decide_eq_false hs
 by_cases hs2:8<S.cs.length
 ·have d3:decide ((8:Int)<(S.cs.length:Int))=true:=decide_eq_true (by omega)
  have d4:decide (8<S.cs.length)=true:=decide_eq_true hs2
  have HE:=hid (lsP_bad (B:=B) (lsE_long (most:=most) HN.out (.inr hs2)) (by decide))
  clear hs hs2
  go_wp2
  go_ret2
  exact ⟨_,_,_,_,rfl,HE.out,StO.nil _ _,HB1.out⟩
 have d3:decide ((8:Int)<(S.cs.length:Int))=false:=decide_eq_false (by omega)
 have d4:decide (8<S.cs.length)=false:=decide_eq_false hs2
 have HSL:=hid (show ¬ (20<S.ss.length∨8<S.cs.length) from fun h=>h.elim hs hs2)
 clear hs hs2
 by_cases hm:most<0
 ·have d5:decide (most<0)=true:=decide_eq_true hm
  have HE:=hid (lsP_bad (B:=B) (lsE_arg HN.out HSL.out (.inl hm)) (by decide))
  clear hm
  go_wp2
  go_ret2
  exact ⟨_,_,_,_,rfl,HE.out,StO.nil _ _,HB1.out⟩
 have d5:decide (most<0)=false:=decide_eq_false hm
 by_cases hm2:3<most
 ·have d6:decide (3<most)=true:=decide_eq_true hm2
  have HE:=hid (lsP_bad (B:=B) (lsE_arg HN.out HSL.out (.inr hm2)) (by decide))
  clear hm hm2
  go_wp2
  go_ret2
  exact ⟨_,_,_,_,rfl,HE.out,StO.nil _ _,HB1.out⟩
 have d6:decide (3<most)=false:=decide_eq_false hm2
 have HLS:=hid (lsE_in HN.out HSL.out (fun h=>h.elim hm hm2))
 obtain ⟨mm,rfl⟩:∃ mm:Nat,most=(mm:Int):=⟨most.toNat,by omega⟩
 have hmm3:mm≤3:=by omega
 have HM0:=hid (show ∀ g,FtsOk S g→g.length<0→¬ Exps S B g (trs L) from fun _ _ h=>absurd h (Nat.not_lt_zero _))
 clear hm hm2 HSL
 go_wp2
 clear d1 d2 d3 d4 d5 d6 s0 s1 s2 s3
 go_loopw [9] (fun x wr=>∃ k:Nat,k≤mm+1∧x = .int .i64 k∧Hid (∀ g,FtsOk S g→g.length<k→¬ Exps S B g (trs L))∧Hid (Below w.heap.size w wr)∧Hid (Blk wr w.heap.size 27 #[v1,v2,.slice a3 S.ss.length c3,.slice a4 S.cs.length c4])) (fun x _=>mm+1-(intOf x).toNat)
 case atStart=>exact ⟨0,Nat.zero_le _,rfl,HM0,HB1,K0⟩
 clear HM0 HB1 K0
 obtain ⟨k,hk,rfl,hmin,hB,hK⟩:=hrel
 obtain ⟨s0,s1,s2,s3⟩:=hK.out.four
 by_cases hkl:k≤mm
 ·have d1:decide ((k:Int)≤(mm:Int))=true:=decide_eq_true (by omega)
  have d2:decide (k≤mm)=true:=decide_eq_true hkl
  go_wp2_with fail
  refine (HSE.out HN.out k (by omega) hmin.out wr hB.out).mono ?_
  rintro e W3 ⟨v,M,g,rfl,hM,hst,hb3⟩
  have HST:=hid (hst.base hB.out.size)
  have HMS:=hid hM
  have HB3:=hid (below_step hB.out hb3)
  have HK3:=hid (hK.out.below hb3)
  obtain ⟨va,vc,rfl⟩:=own_form hst.row
  clear hst hM hb3 hB hK s0 s1 s2 s3 d1 d2
  by_cases h2:200<M.length
  ·have d1:decide ((200:Int)<(M.length:Int))=true:=decide_eq_true (by omega)
   have d2:decide (200<M.length)=true:=decide_eq_true h2
   have HE:=hid (lea_full HLS.out (show k≤((mm:Int)).toNat by omega) hmin.out HMS.out h2)
   clear h2
   go_wp2
   go_ret2
   exact ⟨_,_,_,_,rfl,HE.out,StO.nil _ _,HB3.out⟩
  have d1:decide ((200:Int)<(M.length:Int))=false:=decide_eq_false (by omega)
  have d2:decide (200<M.length)=false:=decide_eq_false h2
  by_cases h0:0<M.length
  ·have d3:decide ((0:Int)<(M.length:Int))=true:=decide_eq_true (by omega)
   have d4:decide (0<M.length)=true:=decide_eq_true h0
   have HE:=hid (lea_has HLS.out (show k≤((mm:Int)).toNat by omega) hmin.out HMS.out h2 h0)
   clear h2 h0
   go_wp2
   go_ret2
   exact ⟨_,_,_,_,rfl,HE.out,HST.out,HB3.out⟩
  have d3:decide ((0:Int)<(M.length:Int))=false:=decide_eq_false (by omega)
  have d4:decide (0<M.length)=false:=decide_eq_false h0
  have HM2:=hid (lea_next_min hmin.out HMS.out (by omega))
  clear h2 h0 HST HMS
  go_wp2
  go_roundw
  case rel=>exact ⟨k+1,by omega,by go_num,HM2,HB3,HK3⟩
  case measure=>simp [intOf];omega
 ·have d1:decide ((k:Int)≤(mm:Int))=false:=decide_eq_false (by omega)
  have d2:decide (k≤mm)=false:=decide_eq_false hkl
  have HE:=hid (lea_none HLS.out (show ((mm:Int)).toNat<k by omega) hmin.out)
  clear hkl
  go_wp2
  go_ret2
  exact ⟨_,_,_,_,rfl,HE.out,StO.nil _ _,hB.out⟩
end Go.Proofs.YteflhbfgpknabaaGreatDoor
namespace Go.Proofs.YteflhbfgpknabaaGreatDoor
open Go.Lib (hid)
open Go.RowKit
def cp00:Cp:=⟨⟨#[]⟩,0,0,0,0,false⟩
def st00:St:=⟨⟨#[]⟩,0,0,0,[]⟩
def actL (S:Sp) (f:Th→Int):List Pl :=
 (List.range S.ds.length).flatMap (fun (d:Nat)=>(playedL f (d:Int)).map fun k=>((d:Int),k)) ++
 (List.range S.cs.length).flatMap fun (i:Nat)=>if f (3,0,(i:Int))=1 then ((takes (S.cs.getD i cp00).only (playedL f (S.cs.getD i cp00).frm)).map fun k=>((S.cs.getD i cp00).to,k+(S.cs.getD i cp00).shift)).filter (keyOk S) else []
theorem mem_actL {S:Sp} {f:Th→Int} (ht:∀ c∈S.cs,c.thr=false) (q:Pl):q∈actL S f↔Acts S f q:=by
 constructor
 ·intro h
  unfold actL at h
  rcases List.mem_append.1 h with h | h
  ·obtain ⟨d,hd,h⟩:=List.mem_flatMap.1 h
   obtain ⟨k,hk,rfl⟩:=List.mem_map.1 h
   have:=List.mem_range.1 hd
   exact .key _ _ ⟨by omega,by omega⟩ hk
  ·obtain ⟨i,hi,h⟩:=List.mem_flatMap.1 h
   have hi2:=List.mem_range.1 hi
   rw [getD_at hi2] at h
   split at h
   ·rename_i hon
    obtain ⟨h1,h2⟩:=List.mem_filter.1 h
    obtain ⟨k,hk,rfl⟩:=List.mem_map.1 h1
    exact .cou i hi2 hon k hk h2
   ·cases h
 ·intro h
  refine act_in (Q:=fun q=>q∈actL S f) ?_ ?_ ?_ q h
  ·intro d k hd hk
   unfold actL
   refine List.mem_append_left _ (List.mem_flatMap.2 ⟨d.toNat,List.mem_range.2 (by omega),List.mem_map.2 ⟨k,?_,?_⟩⟩)
   ·rw [show ((d.toNat:Nat):Int)=d by omega];exact hk
   ·rw [show ((d.toNat:Nat):Int)=d by omega]
  ·intro i hi hon k hk ok
   unfold actL
   refine List.mem_append_right _ (List.mem_flatMap.2 ⟨i,List.mem_range.2 hi,?_⟩)
   rw [getD_at hi,if_pos hon]
   exact List.mem_filter.2 ⟨List.mem_map.2 ⟨k,hk,rfl⟩,ok⟩
  ·intro i hi _ htr
   rw [ht _ (List.getElem_mem hi)] at htr
   cases htr
def sndB (S:Sp) (f:Th→Int) (p:Pp):Bool:=(List.range S.ss.length).any fun (i:Nat)=>decide (f (2,0,(i:Int))=1)&&(actL S f).any fun q=>decide (q.1=(S.ss.getD i st00).div)&&keyOk S q&&playsB (S.ss.getD i st00) q.2 p
theorem sndB_is {S:Sp} (ht:∀ c∈S.cs,c.thr=false):SndIs S (sndB S):=by
 intro f p
 unfold sndB Snd
 rw [List.any_eq_true]
 constructor
 ·rintro ⟨i,hi,h⟩
  have hi2:=List.mem_range.1 hi
  rw [getD_at hi2,Bool.and_eq_true,List.any_eq_true] at h
  obtain ⟨h1,⟨d,k⟩,h2,h3⟩:=h
  simp only [Bool.and_eq_true,decide_eq_true_iff] at h1 h3
  obtain ⟨⟨rfl,h4⟩,h5⟩:=h3
  exact ⟨i,hi2,h1,k,(mem_actL ht _).1 h2,h4,h5⟩
 ·rintro ⟨i,hi,h1,k,h2,h3,h4⟩
  refine ⟨i,List.mem_range.2 hi,?_⟩
  rw [getD_at hi,Bool.and_eq_true,List.any_eq_true]
  refine ⟨by simpa using h1,_,(mem_actL ht _).2 h2,?_⟩
  simp only [Bool.and_eq_true,decide_eq_true_iff]
  exact ⟨⟨trivial,h3⟩,h4⟩
def exD:Sp where
 ds:=[⟨⟨#[103,114,101,97,116]⟩,60,61⟩]
 rs:=[⟨⟨#[102,108,117,116,101]⟩,1,8,1,60,2⟩,⟨⟨#[114,101,101,100]⟩,4,8,1,60,2⟩]
 ss:=[⟨⟨#[102,108,117,116,101]⟩,0,8,1,[⟨0,0,60,61⟩]⟩,⟨⟨#[114,101,101,100]⟩,0,8,1,[⟨1,0,60,61⟩]⟩]
 cs:=[]
theorem exD_thr:∀ c∈exD.cs,c.thr=false:=fun c h=>(by cases h)
def exH (key:Int):Hn:=⟨[[key]],[0],[]⟩
def exT1:List Tl:=[⟨exH 60,[(0,60)]⟩]
def exT2:List Tl:=[⟨exH 60,[(0,60),(0,61)]⟩]
def exT3:List Tl:=[⟨exH 60,[(0,60),(1,60)]⟩]
def exT4:List Tl:=[⟨exH 60,[(0,60),(1,60)]⟩,⟨exH 61,[(0,61),(1,61)]⟩]
theorem exT_ok:trlE exD exT1=0∧trlE exD exT2=0∧trlE exD exT3=0∧trlE exD exT4=0:=by decide +kernel
theorem ex_s0:(subs (allFt exD) 0).filter (okB exD (sndB exD) (trs exT1))=[[]]∧(subs (allFt exD) 0).filter (okB exD (sndB exD) (trs exT2))=[]∧(subs (allFt exD) 0).filter (okB exD (sndB exD) (trs exT3))=[]∧(subs (allFt exD) 0).filter (okB exD (sndB exD) (trs exT4))=[]:=by decide +kernel
theorem ex_s1:(subs (allFt exD) 1).filter (okB exD (sndB exD) (trs exT2))=[[(1,0,61)]]∧(subs (allFt exD) 1).filter (okB exD (sndB exD) (trs exT3))=[[(1,1,60)],[(3,1,0)]]∧(subs (allFt exD) 1).filter (okB exD (sndB exD) (trs exT4))=[[(3,1,0)]]:=by decide +kernel
theorem ex_lea1:LeaP exD (sndB exD) (trs exT1) 2 [[]] 0:=by
 have h:=lea_all (S:=exD) (B:=sndB exD) (T:=trs exT1) (most:=2) (k:=0) (by decide) (fun j hj=>absurd hj (Nat.not_lt_zero j)) (by rw [ex_s0.1];decide) (by rw [ex_s0.1];decide)
 rwa [ex_s0.1] at h
theorem ex_lea2:LeaP exD (sndB exD) (trs exT2) 2 [[(1,0,61)]] 0:=by
 have h:=lea_all (S:=exD) (B:=sndB exD) (T:=trs exT2) (most:=2) (k:=1) (by decide) (fun j hj=>by have e:j=0:=(by omega);subst e;exact ex_s0.2.1) (by rw [ex_s1.1];decide) (by rw [ex_s1.1];decide)
 rwa [ex_s1.1] at h
theorem ex_lea3:LeaP exD (sndB exD) (trs exT3) 2 [[(1,1,60)],[(3,1,0)]] 0:=by
 have h:=lea_all (S:=exD) (B:=sndB exD) (T:=trs exT3) (most:=2) (k:=1) (by decide) (fun j hj=>by have e:j=0:=(by omega);subst e;exact ex_s0.2.2.1) (by rw [ex_s1.2.1];decide) (by rw [ex_s1.2.1];decide)
 rwa [ex_s1.2.1] at h
theorem ex_lea4:LeaP exD (sndB exD) (trs exT4) 2 [[(3,1,0)]] 0:=by
 have h:=lea_all (S:=exD) (B:=sndB exD) (T:=trs exT4) (most:=2) (k:=1) (by decide) (fun j hj=>by have e:j=0:=(by omega);subst e;exact ex_s0.2.2.2) (by rw [ex_s1.2.2];decide) (by rw [ex_s1.2.2];decide)
 rwa [ex_s1.2.2] at h
open Go.Shelf
theorem exD_wk:SpWk exD:=⟨by
 intro x hx;simp only [exD,List.mem_singleton] at hx;subst hx;decide,by
 intro x hx;simp only [exD,List.mem_cons,List.mem_nil_iff,or_false] at hx;rcases hx with rfl | rfl <;> decide,by
 intro x hx;simp only [exD,List.mem_cons,List.mem_nil_iff,or_false] at hx;rcases hx with rfl | rfl <;> decide,fun x hx=>absurd hx List.not_mem_nil,by
 intro x hx;simp only [exD,List.mem_cons,List.mem_nil_iff,or_false] at hx;rcases hx with rfl | rfl <;> decide⟩
theorem ard_of_blk {W:World} {B:Nat} {t:TypeId} {cs:Array Value} (h:Blk W B t cs) {k:Nat} {rows:List (List Value)} (hk:∀ r∈rows,r.length=k) (hcs:cs.toList=rows.flatten) (n c:Nat) (hn:n=rows.length):ARd W (.slice (some ⟨B,0,none⟩) n c) k rows:=by
 subst hn
 refine ⟨_,_,rfl,fun i hi=>⟨B,0,rfl,h.lt,fun j u hj=>?_⟩⟩
 have hjk:j<k:=by
  have:=(List.getElem?_eq_some_iff.1 hj).1
  rwa [hk _ (List.getElem_mem hi)] at this
 have e:=flat_get rows hk i hi j hjk
 rw [hj,← hcs,Array.getElem?_toList] at e
 rw [Nat.zero_add,h.cell,e]
theorem blk_here {W:World} {B:Nat} {t:TypeId} {cs:Array Value} (hn:B=W.heap.size):Blk (W.alloc (.cells cs t)) B t cs:=by subst hn;exact Blk.new _ _ _
structure XmD (W:World) (b:Nat):Prop where
 d:Blk W b 109 #[.string ⟨#[103,114,101,97,116]⟩,.int .i64 60,.int .i64 61]
 r:Blk W (b+1) 63 #[.string ⟨#[102,108,117,116,101]⟩,.int .i64 1,.int .i64 8,.int .i64 1,.int .i64 60,.int .i64 2,.string ⟨#[114,101,101,100]⟩,.int .i64 4,.int .i64 8,.int .i64 1,.int .i64 60,.int .i64 2]
 p0:Blk W (b+2) 105 #[.int .i64 0,.int .i64 0,.int .i64 60,.int .i64 61]
 p1:Blk W (b+3) 105 #[.int .i64 1,.int .i64 0,.int .i64 60,.int .i64 61]
 s:Blk W (b+4) 66 #[.string ⟨#[102,108,117,116,101]⟩,.int .i64 0,.int .i64 8,.int .i64 1,.slice (some ⟨b+2,0,none⟩) 1 1,.string ⟨#[114,101,101,100]⟩,.int .i64 0,.int .i64 8,.int .i64 1,.slice (some ⟨b+3,0,none⟩) 1 1]
theorem XmD.rd {W:World} {b:Nat} (h:XmD W b):SpRd W (.slice (some ⟨b,0,none⟩) 1 1) (.slice (some ⟨b+1,0,none⟩) 2 2) (.slice (some ⟨b+4,0,none⟩) 2 2) (.slice none 0 0) (fun i => .slice (some ⟨b+2+i,0,none⟩) 1 1) exD where
 d:=ard_of_blk (k:=3) (rows:=exD.ds.map dvC) h.d (by intro r hr;obtain ⟨x,_,rfl⟩:=List.mem_map.1 hr;rfl) rfl _ _ rfl
 r:=ard_of_blk (k:=6) (rows:=exD.rs.map rkC) h.r (by intro r hr;obtain ⟨x,_,rfl⟩:=List.mem_map.1 hr;rfl) rfl _ _ rfl
 s:=ard_of_blk (k:=5) (rows:=exD.ss.mapIdx fun i x=>stC x (.slice (some ⟨b+2+i,0,none⟩) 1 1)) h.s (by intro r hr;obtain ⟨i,hi,rfl⟩:=List.mem_mapIdx.1 hr;rfl) rfl _ _ rfl
 c:=⟨_,_,rfl,fun i hi=>absurd hi (Nat.not_lt_zero i)⟩
 p i hi:=by
  have hi':i<2:=hi
  match i,hi' with
  | 0,_ => exact ard_of_blk (k:=4) (rows:=[ptC ⟨0,0,60,61⟩]) h.p0 (by intro r hr;rw [List.mem_singleton.1 hr];rfl) rfl _ _ rfl
  | 1,_ => exact ard_of_blk (k:=4) (rows:=[ptC ⟨1,0,60,61⟩]) h.p1 (by intro r hr;rw [List.mem_singleton.1 hr];rfl) rfl _ _ rfl
def XmE (w:World) (e:Ending) (w':World):Prop:=∃ b,e = .returned (.agg #[.slice (some ⟨b,0,none⟩) 1 1,.slice (some ⟨b+1,0,none⟩) 2 2,.slice (some ⟨b+4,0,none⟩) 2 2,.slice none 0 0])∧XmD w' b∧Below w.heap.size w w'
theorem example30_any (w:World):Calls Tryz.prog 66 #[] w (XmE w):=by
 go_enter Tryz.func66,Tryz.ntmps66
 go_wp2
 refine bodyPost_ret (v:=.agg #[.slice (some ⟨w.heap.size+1+1,0,none⟩) 1 1,.slice (some ⟨w.heap.size+1+1+1,0,none⟩) 2 2,.slice (some ⟨w.heap.size+1+1+1+1+1+1,0,none⟩) 2 2,.slice none 0 0]) (by simp [results,Tryz.results66,go_sem]) rfl ⟨w.heap.size+1+1,rfl,⟨?_,?_,?_,?_,?_⟩,?_⟩
 ·exact ((((blk_here (by simp)).alloc _).alloc _).alloc _).alloc _
 ·exact (((blk_here (by simp)).alloc _).alloc _).alloc _
 ·exact ((blk_here (by simp)).alloc _).alloc _
 ·exact (blk_here (by simp)).alloc _
 ·exact blk_here (by simp)
 ·exact (((((((Below.refl _ w).alloc (Nat.le_refl _) _).alloc (by simp) _).alloc (by simp;omega) _).alloc (by simp;omega) _).alloc (by simp;omega) _).alloc (by simp;omega) _).alloc (by simp;omega) _
structure TlV (W:World) (vk vs vc vh:Value) (t:Tl):Prop where
 hd:HnRd W vk vs vc t.h
 pp:ARd W vh 2 (t.l.map ppC)
theorem TlV.later {W W':World} {vk vs vc vh:Value} {t:Tl} (h:TlV W vk vs vc vh t) (hb:Below W.heap.size W W'):TlV W' vk vs vc vh t:=⟨h.hd.later hb,h.pp.later hb⟩
def TriE (key:Int) (vh:Value) (l:List Pp) (w:World) (e:Ending) (w':World):Prop:=∃ a b c,e = .returned (.agg #[a,b,c,vh])∧TlV w' a b c vh ⟨exH key,l⟩∧Below w.heap.size w w'
theorem trial30_any (key:Int) (vh:Value) (l:List Pp) (w:World) (h:ARd w vh 2 (l.map ppC)):Calls Tryz.prog 32 #[.int .i64 key,vh] w (TriE key vh l w):=by
 have HH:=hid h
 obtain ⟨ah,ch,rfl⟩:=ppFormI h
 clear h
 go_enter Tryz.func32,Tryz.ntmps32
 go_wp2
 have hbl:Below w.heap.size w ((((w.alloc (.cells #[.slice (some ⟨w.heap.size+1+1,0,none⟩) 1 1,.slice (some ⟨w.heap.size+1+1+1,0,none⟩) 1 1,.slice none 0 0,.slice ah l.length ch] 58)).alloc (.cells #[.int .i64 key] 3)).alloc (.cells #[.slice (some ⟨w.heap.size+1,0,none⟩) 1 1] 30)).alloc (.cells #[.int .i64 0] 3)):=((((Below.refl _ w).alloc (Nat.le_refl _) _).alloc (by simp) _).alloc (by simp;omega) _).alloc (by simp;omega) _
 refine bodyPost_ret (v:=.agg #[.slice (some ⟨w.heap.size+1+1,0,none⟩) 1 1,.slice (some ⟨w.heap.size+1+1+1,0,none⟩) 1 1,.slice none 0 0,.slice ah l.length ch]) (by simp [results,Tryz.results32,go_sem]) rfl ⟨_,_,_,rfl,⟨⟨⟨fun _ => .slice (some ⟨w.heap.size+1,0,none⟩) 1 1,?_,?_⟩,?_,?_⟩,HH.out.later hbl⟩,hbl⟩
 ·exact ard_of_blk (k:=1) (t:=30) (cs:=#[.slice (some ⟨w.heap.size+1,0,none⟩) 1 1]) ((blk_here (by simp)).alloc _) (by intro r hr;obtain ⟨i,_,rfl⟩:=List.mem_map.1 hr;rfl) rfl _ _ rfl
 ·intro d hd
  have hd0:d=0:=by have:d<1:=hd;omega
  subst hd0
  refine ⟨?_,fun a n c e=>by cases e;exact Nat.le_refl _⟩
  exact ard_of_blk (k:=1) (t:=3) (cs:=#[.int .i64 key]) (((blk_here (by simp)).alloc _).alloc _) (by intro r hr;obtain ⟨i,_,rfl⟩:=List.mem_map.1 hr;rfl) rfl _ _ rfl
 ·exact ard_of_blk (k:=1) (t:=3) (cs:=#[.int .i64 0]) (blk_here (by simp)) (by intro r hr;obtain ⟨i,_,rfl⟩:=List.mem_map.1 hr;rfl) rfl _ _ rfl
 ·exact ⟨_,_,rfl,fun i hi=>absurd hi (Nat.not_lt_zero i)⟩
theorem lsE_ex {L:List Tl} (h:trlE exD L=0):lsE exD L 2=0:=lsE_in h (by decide) (by decide)
theorem exD_is:(checkP exD).2=0→SndIs exD (sndB exD):=fun _=>sndB_is exD_thr
theorem least30_any (N:List (List Ft)) (wv:Value) (gw:Nat→Value) (L:List Tl) (tv:Value) (gk gs gc gh:Nat→Value) (hL:trlE exD L=0) (hN:LeaP exD (sndB exD) (trs L) 2 N 0) (hsm:∀ t∈L,HnSm t.h∧t.l.length≤1000000) (hll:L.length≤1000000) (w:World) (hD:Deb w) (ht:Tabs w) (hw:StsRd w wv N gw) (htv:TlRd w tv L gk gs gc gh) :
  Calls Tryz.prog 31 #[wv,tv] w (BoolR true w):=by
 have HT:=hid ht
 have HD:=hid hD
 have HW:=hid hw
 have HTV:=hid htv
 have HS:=hid hsm
 have HN:=hid hN
 have HL:=hid hL
 obtain ⟨_,_,rfl⟩:=hw.form
 obtain ⟨_,_,rfl⟩:=htv.form
 clear ht hD hw htv hsm hN hL
 go_enter Tryz.func31,Tryz.ntmps31
 go_wp2_with fail
 refine (example30_any _).mono ?_
 rintro e W1 ⟨b,rfl,hx,hb1⟩
 have HLE:=hid (leastD_any _ _ _ _ exD exD_wk _ L HS.out hll _ gk gs gc gh (sndB exD) exD_is 2 W1 (HD.out.below hb1) (HT.out.below hb1) hx.rd (fun i _ a n c e=>by cases e;exact Nat.le_refl _) (HTV.out.later hb1))
 have HB1:=hid hb1
 clear hx hb1
 go_wp2_with fail
 refine (HLE.out).mono ?_
 rintro e W2 ⟨v,M,g,n,rfl,hls,hst,hb2⟩
 obtain ⟨e1,e2⟩:=hls.one (.inr ⟨lsE_ex HL.out,HN.out⟩)
 subst e1 e2
 have HB2:=hid (below_step HB1.out hb2)
 have hlen:M.length≤200:=(leaP_ok HN.out).choose_spec.2.2.2.2
 have hsz:∀ x∈M,x.length≤1000000:=fun x hx=>by
  obtain ⟨m,h1,_,h2,_⟩:=leaP_ok HN.out
  have:=h2.size hx
  omega
 have HSS:=hid (samesets_any M M v _ g gw W2 hst.rd (HW.out.later HB2.out) (by omega) (by omega) hsz)
 rw [decide_eq_true rfl] at HSS
 obtain ⟨_,_,rfl⟩:=hst.rd.form
 clear hls hst hb2 hlen hsz HLE HB1
 go_wp2_with fail
 refine (HSS.out).mono ?_
 rintro e W3 ⟨rfl,hb3⟩
 have HB3:=hid (below_step HB2.out hb3)
 clear hb3 HSS
 go_wp2
 go_ret
 exact ⟨rfl,HB3.out⟩
end Go.Proofs.YteflhbfgpknabaaGreatDoor
