/-
  A part of the proof: AW, F1c, LG, RP, TW.
-/
import Derived.Test.YthhfmppealmblaaGreatDoorY18
import Derived.Deep.RegionHeld3
import Derived.Test.YthhfmppealmblaaGreatDoorQ02
import Derived.Test.YthhfmppealmblaaGreatDoorQ04
import Derived.Test.YthhfmppealmblaaGreatDoorQ16
import Derived.Test.YthhfmppealmblaaGreatDoorQ07
import Derived.OwnWalk
namespace Go.Proofs.YthhfmppealmblaaGreatDoor
open Go.RowKit
theorem ard_cls {W:World} {b:Nat} {t:TypeId} (h:Blk W b t #[.int .i64 0,.int .i64 40,.int .i64 10,.int .i64 30,.int .i64 0,.int .i64 52,.int .i64 20,.int .i64 60]):ARd W (.slice (some ⟨b,0,none⟩) 2 2) 4 (exCl.map clC) :=
 ARd.of_blk (k:=4) (rows:=exCl.map clC) h (by intro r hr;obtain ⟨x,_,rfl⟩:=List.mem_map.1 hr;rfl) rfl _ _ rfl
theorem ard_fas {W:World} {b:Nat} {t:TypeId} (h:Blk W b t #[.int .i64 1,.int .i64 0,.int .i64 52,.int .i64 10,.int .i64 20,.int .i64 2,.int .i64 0,.int .i64 52,.int .i64 50,.int .i64 60]):ARd W (.slice (some ⟨b,0,none⟩) 2 2) 5 (([(1,(0,52),10,20),(2,(0,52),50,60)]:List Fa).map faC) :=
 ARd.of_blk (k:=5) (rows:=([(1,(0,52),10,20),(2,(0,52),50,60)]:List Fa).map faC) h (by intro r hr;obtain ⟨x,_,rfl⟩:=List.mem_map.1 hr;rfl) rfl _ _ rfl
set_option maxRecDepth 100000 in
set_option maxHeartbeats 6400000 in
theorem awake_any (w:World) (t:Tabs w):Calls Tryz.prog 13 #[] w (BoR true w):=by
 have HT:=Lib.hid t
 clear t
 go_enter Tryz.func13,Tryz.ntmps13
 go_wp2_with fail
 refine (example_any w).mono ?_
 rintro e W1 ⟨rfl,hm,hb1⟩
 have HM1:=Lib.hid hm
 have HB1:=Lib.hid hb1
 clear hm hb1
 go_wp2_with fail
 refine (events_any W1).mono ?_
 rintro e W2 ⟨rfl,hev,hb2⟩
 have hsr:=(HM1.out.below hb2).rd
 obtain ⟨p,hp⟩:∃ p,w.heap.size=p:=⟨_,rfl⟩
 rw [hp] at hsr ⊢
 obtain ⟨pe,hpe⟩:∃ p,W1.heap.size=p:=⟨_,rfl⟩
 rw [hpe] at hev ⊢
 have HB2:=Lib.hid (below_step HB1.out hb2)
 have HP:=Lib.hid hp
 have hal:Below W2.heap.size W2 (W2.alloc (.cells #[.slice (some ⟨p+3,0,none⟩) 1 1,.slice (some ⟨p+4,0,none⟩) 2 2,.slice (some ⟨p+8,0,none⟩) 3 3,.slice (some ⟨p+9,0,none⟩) 1 1] 27)):=(Below.refl _ _).alloc (Nat.le_refl _) _
 have hk:=Blk.new W2 27 #[.slice (some ⟨p+3,0,none⟩) 1 1,.slice (some ⟨p+4,0,none⟩) 2 2,.slice (some ⟨p+8,0,none⟩) 3 3,.slice (some ⟨p+9,0,none⟩) 1 1]
 have HSR:=Lib.hid (hsr.later hal)
 have HEV:=Lib.hid (hev.later hal)
 have HK:=Lib.hid hk
 have HB3:=Lib.hid (below_step HB2.out hal)
 clear hsr hev hp hpe hb2 HM1 HB1 HB2 hal hk
 go_upto_region 2 with fail
 obtain ⟨P,hP⟩:∃ P,W2.heap.size=P:=⟨_,rfl⟩
 rw [hP] at HK ⊢
 generalize W2.alloc (.cells #[.slice (some ⟨p+3,0,none⟩) 1 1,.slice (some ⟨p+4,0,none⟩) 2 2,.slice (some ⟨p+8,0,none⟩) 3 3,.slice (some ⟨p+9,0,none⟩) 1 1] 27)=W3 at *
 obtain ⟨v1,hv1⟩:∃ v:Value,.slice (some ⟨p+3,0,none⟩) 1 1=v:=⟨_,rfl⟩
 obtain ⟨v2,hv2⟩:∃ v:Value,.slice (some ⟨p+4,0,none⟩) 2 2=v:=⟨_,rfl⟩
 obtain ⟨v3,hv3⟩:∃ v:Value,.slice (some ⟨p+8,0,none⟩) 3 3=v:=⟨_,rfl⟩
 obtain ⟨v4,hv4⟩:∃ v:Value,.slice (some ⟨p+9,0,none⟩) 1 1=v:=⟨_,rfl⟩
 rw [hv1,hv2,hv3,hv4] at HK HSR
 try rw [hv1]
 try rw [hv2]
 try rw [hv3]
 try rw [hv4]
 clear hP hv1 hv2 hv3 hv4
 obtain ⟨s0,s1,s2,s3⟩:=HK.out.four
 have hdr:=hold4 (W0:=W3) ⟨Below.refl _ W3,s0,s1,s2,s3⟩ ((Below.refl _ W3).drew)
 have HCLM:=Lib.hid (fun (W:World) (hb:Below W3.heap.size W3 W) (b:Nat) (hk:Blk W b 47 #[.int .i64 0,.int .i64 40,.int .i64 10,.int .i64 30,.int .i64 0,.int .i64 52,.int .i64 20,.int .i64 60])=>aclaims_any v1 v2 v3 v4 (exS 37) (exS_ok 37) _ exEv (.slice (some ⟨pe,0,none⟩) 7 7) exCl (.slice (some ⟨b,0,none⟩) 2 2) (sndB (exS 37)) (sndB_is exS_thr) W (HT.out.below (below_step HB3.out hb)) (HSR.out.later hb) (HEV.out.later hb) (ard_cls hk) (by decide) (by decide))
 clear s0 s1 s2 s3
 go_region_held3 (fun w'=>Below W3.heap.size W3 w'∧w'.cell? ⟨P,0,none⟩=some v1∧w'.cell? ⟨P,1,none⟩=some v2∧w'.cell? ⟨P,2,none⟩=some v3∧w'.cell? ⟨P,3,none⟩=some v4) (first | exact hdr | assumption | exact hold4 (by assumption) ((Below.refl _ _).alloc (Nat.le_refl _) _)) (first | (go_at_call 38;(with_reducible refine (flute_any 40 _).mono ?_);rintro e w5 ⟨rfl,hb5⟩;have hn5:=hold4 hdr hb5;clear hb5) | (go_at_call 38;(with_reducible refine (flute_any 52 _).mono ?_);rintro e w6 ⟨rfl,hb6⟩;have hn6:=hold4 hn5 hb6;clear hb6) | (go_at_call 14;refine (HCLM.out _ (hn6.1.alloc hn6.1.size _) _ (Blk.new _ _ _)).mono ?_;rintro e w8 ⟨vf,mf,cf,rfl,hrow,hcl,hb8⟩;obtain ⟨rfl,rfl⟩:=ex_out hcl;have hn8:=hold4 (hold4 hn6 ((Below.refl _ _).alloc (Nat.le_refl _) _)) hb8;clear hb8 hcl))
 have HB8:=Lib.hid (below_step HB3.out hn8.1)
 have HRF:=Lib.hid (ARd.of_fas hrow)
 have HPK:=Lib.hid (peak_any v1 v2 v3 v4 (exS 37) (exS_ok 37) _ exEv (.slice (some ⟨pe,0,none⟩) 7 7) (sndB (exS 37)) (sndB_is exS_thr) w8 (HT.out.below HB8.out) (HSR.out.later hn8.1) (HEV.out.later hn8.1) (by decide))
 obtain ⟨_,s0,s1,s2,s3⟩:=hn8
 clear hdr hn5 hn6 hrow HCLM HSR HEV
 go_wp2_with fail
 refine (HPK.out).mono ?_
 rintro e w9 ⟨rfl,hb9⟩
 rw [ex_pk,ex_aud]
 have HB9:=Lib.hid (below_step HB8.out hb9)
 have HF9:=Lib.hid (HRF.out.later hb9)
 clear hb9 HPK s0 s1 s2 s3 HRF HB8
 dsimp only
 go_wp2_with fail
 refine (flute_any 52 _).mono ?_
 rintro e wa ⟨rfl,hba⟩
 have HBa:=Lib.hid (below_step HB9.out hba)
 have HFa:=Lib.hid (HF9.out.later hba)
 clear hba HB9 HF9
 go_wp2_with fail
 refine (flute_any 52 _).mono ?_
 rintro e wb ⟨rfl,hbb⟩
 have hbb2:Below wb.heap.size wb (wb.alloc (.cells #[.int .i64 1,.int .i64 0,.int .i64 52,.int .i64 10,.int .i64 20,.int .i64 2,.int .i64 0,.int .i64 52,.int .i64 50,.int .i64 60] 52)):=(Below.refl _ _).alloc (Nat.le_refl _) _
 have HBb:=Lib.hid (below_step HBa.out (below_step hbb hbb2))
 have HSM:=Lib.hid (same_any _ _ vf (.slice (some ⟨wb.heap.size,0,none⟩) 2 2) _ (HFa.out.later (below_step hbb hbb2)) (ard_fas (Blk.new wb 52 #[.int .i64 1,.int .i64 0,.int .i64 52,.int .i64 10,.int .i64 20,.int .i64 2,.int .i64 0,.int .i64 52,.int .i64 50,.int .i64 60])) (by decide))
 rw [decide_eq_true rfl] at HSM
 clear hbb hbb2 HBa HFa
 go_wp2_with fail
 refine (HSM.out).mono ?_
 rintro e wc ⟨rfl,hbc⟩
 have HBc:=Lib.hid (below_step HBb.out hbc)
 clear hbc HSM HBb
 go_wp2
 go_ret
 exact ⟨rfl,HBc.out⟩
end Go.Proofs.YthhfmppealmblaaGreatDoor
namespace Go.Proofs.YthhfmppealmblaaGreatDoor
open Go.RowKit
def FarEnds (S:Sp) (w:World) (e:Ending) (w':World):Prop:=∃ b,e = .returned (.bool b)∧(b=false→SpOk S)∧Below w.heap.size w w'
theorem farEnds_yes {S:Sp} {w w':World} {v:Value} (hv:v = .bool true) (hb:Below w.heap.size w w'):FarEnds S w (.returned v) w':=⟨true,by rw [hv],(fun h=>by cases h),hb⟩
theorem farEnds_of {S:Sp} {w w':World} {v:Value} {b:Bool} (hv:v = .bool b) (h:b=false→SpOk S) (hb:Below w.heap.size w w'):FarEnds S w (.returned v) w':=⟨b,by rw [hv],h,hb⟩
theorem all_of_get {α:Type} {l:List α} {p:α→Prop} (h:∀ j (h:j<l.length),j<l.length→p l[j]):∀ x∈l,p x:=by
 intro x hx
 obtain ⟨j,hj,rfl⟩:=List.mem_iff_getElem.1 hx
 exact h j hj hj
theorem upto_step {α:Type} {l:List α} {p:α→Prop} {k:Nat} (hk:k<l.length) (h:∀ j (h:j<l.length),j<k→p l[j]) (h2:p l[k]):∀ j (h:j<l.length),j<k+1→p l[j]:=by
 intro j hj hjk
 rcases Nat.lt_succ_iff_lt_or_eq.1 hjk with h' | h'
 ·exact h j hj h'
 ·subst h';exact h2
set_option maxRecDepth 100000 in
set_option maxHeartbeats 3200000 in
theorem far_long (a1 a2 a3 a4:Option Addr) (c1 c2 c3 c4:Nat) (S:Sp) (w:World) (h:10<S.ds.length∨(S.ds.length≤10∧50<S.rs.length)∨(S.ds.length≤10∧S.rs.length≤50∧100<S.ss.length)∨(S.ds.length≤10∧S.rs.length≤50∧S.ss.length≤100∧40<S.cs.length)) :
  Calls Tryz.prog 39 #[.agg #[.slice a1 S.ds.length c1,.slice a2 S.rs.length c2,.slice a3 S.ss.length c3,.slice a4 S.cs.length c4]] w (FarEnds S w):=by
 have HB:=Lib.hid (show Below w.heap.size w (w.alloc (.cells #[.slice a1 S.ds.length c1,.slice a2 S.rs.length c2,.slice a3 S.ss.length c3,.slice a4 S.cs.length c4] 27)) from (Below.refl _ w).alloc (Nat.le_refl _) _)
 rcases h with h | ⟨h1,h⟩ | ⟨h1,h2,h⟩ | ⟨h1,h2,h3,h⟩
 all_goals
  go_enter Tryz.func39,Tryz.ntmps39
  go_wp2
  go_ret
  exact farEnds_yes rfl HB.out
set_option maxRecDepth 100000 in
set_option maxHeartbeats 6400000 in
theorem far_short (a1 a2 a3 a4:Option Addr) (c1 c2 c3 c4:Nat) (S:Sp) (w:World) (f:Nat→Value) (hsp:SpRd w (.slice a1 S.ds.length c1) (.slice a2 S.rs.length c2) (.slice a3 S.ss.length c3) (.slice a4 S.cs.length c4) f S)
  (l1:S.ds.length≤10) (l2:S.rs.length≤50) (l3:S.ss.length≤100) (l4:S.cs.length≤40) :
  Calls Tryz.prog 39 #[.agg #[.slice a1 S.ds.length c1,.slice a2 S.rs.length c2,.slice a3 S.ss.length c3,.slice a4 S.cs.length c4]] w (FarEnds S w):=by
 have hb0:Below w.heap.size w (w.alloc (.cells #[.slice a1 S.ds.length c1,.slice a2 S.rs.length c2,.slice a3 S.ss.length c3,.slice a4 S.cs.length c4] 27)):=(Below.refl _ w).alloc (Nat.le_refl _) _
 have k0:Blk (w.alloc (.cells #[.slice a1 S.ds.length c1,.slice a2 S.rs.length c2,.slice a3 S.ss.length c3,.slice a4 S.cs.length c4] 27)) w.heap.size 27 #[.slice a1 S.ds.length c1,.slice a2 S.rs.length c2,.slice a3 S.ss.length c3,.slice a4 S.cs.length c4]:=Blk.new w _ _
 obtain ⟨W,hW⟩:∃ W,W=w.alloc (.cells #[.slice a1 S.ds.length c1,.slice a2 S.rs.length c2,.slice a3 S.ss.length c3,.slice a4 S.cs.length c4] 27):=⟨_,rfl⟩
 have HW:=Lib.hid hW
 rw [← hW] at hb0 k0
 have HB:=Lib.hid hb0
 have HSP:=Lib.hid (hsp.later hb0)
 have HK:=Lib.hid k0
 have g10:decide ((10:Int)<(S.ds.length:Int))=false:=by rw [decide_eq_false_iff_not];omega
 have g50:decide ((50:Int)<(S.rs.length:Int))=false:=by rw [decide_eq_false_iff_not];omega
 have g100:decide ((100:Int)<(S.ss.length:Int))=false:=by rw [decide_eq_false_iff_not];omega
 have g40:decide ((40:Int)<(S.cs.length:Int))=false:=by rw [decide_eq_false_iff_not];omega
 clear hW hb0 k0 hsp
 go_enter Tryz.func39,Tryz.ntmps39
 go_wp2
 rw [← HW.out]
 clear HW g10 g50 g100 g40
 obtain ⟨s0,s1,s2,s3⟩:=HK.out.four
 go_loop [3,4] (fun u x=>∃ (k:Nat) (b:Bool),k≤S.ds.length∧x = .int .i64 k∧u = .bool b∧RowKit.Hid (b=false→(∀ j (h:j<S.ds.length),j<k→S.ds[j].name.size≤100))) (fun _ x=>S.ds.length-(intOf x).toNat)
 case atStart=>exact ⟨0,false,by omega,rfl,rfl,Lib.hid (fun _=>fun j _ hj=>by omega)⟩
 obtain ⟨k,b0,hk,rfl,rfl,hN⟩:=hrel
 by_cases hlt:k<S.ds.length
 ·obtain ⟨bb,o,c,ev,hbl,r0,_⟩:=HSP.out.dAt k hlt
  cases ev
  have hk2:(k:Int)<(S.ds.length:Int):=by omega
  cases b0 with
  | true =>
   go_wp2
   go_round
   case rel=>exact ⟨k+1,true,by omega,by go_num,rfl,Lib.hid (fun h=>by cases h)⟩
   case measure=>simp [intOf];omega
  | false =>
   have HN:=Lib.hid (hN.out rfl)
   clear hN
   by_cases hsz:S.ds[k].name.size≤100
   ·have hd:decide ((100:Int)<(S.ds[k].name.size:Int))=false:=by rw [decide_eq_false_iff_not];omega
    have HZ:=Lib.hid hsz
    clear hsz
    go_wp2
    go_round
    case rel=>exact ⟨k+1,false,by omega,by go_num,rfl,Lib.hid (fun _=>upto_step (p:=fun x=>x.name.size≤100) hlt HN.out HZ.out)⟩
    case measure=>simp [intOf];omega
   ·have hd:decide ((100:Int)<(S.ds[k].name.size:Int))=true:=by rw [decide_eq_true_iff];omega
    clear hsz
    go_wp2
    go_round
    case rel=>exact ⟨k+1,true,by omega,by go_num,rfl,Lib.hid (fun h=>by cases h)⟩
    case measure=>simp [intOf];omega
 ·have hke:k=S.ds.length:=by omega
  have hk2:¬ ((k:Int)<(S.ds.length:Int)):=by omega
  have HN0:=hN
  rw [hke] at HN0
  clear hN
  go_wp2
  clear hke hk2 hlt hk
  go_loop [3,5] (fun u x=>∃ (k:Nat) (b:Bool),k≤S.rs.length∧x = .int .i64 k∧u = .bool b∧RowKit.Hid (b=false→(∀ j (h:j<S.ds.length),j<S.ds.length→S.ds[j].name.size≤100)∧(∀ j (h:j<S.rs.length),j<k→S.rs[j].name.size≤100))) (fun _ x=>S.rs.length-(intOf x).toNat)
  case atStart=>exact ⟨0,b0,by omega,rfl,rfl,Lib.hid (fun hb=>⟨HN0.out hb,fun j _ hj=>by omega⟩)⟩
  clear HN0
  obtain ⟨k,b1,hk,rfl,rfl,hN⟩:=hrel
  by_cases hlt:k<S.rs.length
  ·obtain ⟨bb,o,c,ev,hbl,r0,_⟩:=HSP.out.rAt k hlt
   cases ev
   have hk2:(k:Int)<(S.rs.length:Int):=by omega
   cases b1 with
   | true =>
    go_wp2
    go_round
    case rel=>exact ⟨k+1,true,by omega,by go_num,rfl,Lib.hid (fun h=>by cases h)⟩
    case measure=>simp [intOf];omega
   | false =>
    have HN:=Lib.hid (hN.out rfl)
    clear hN
    by_cases hsz:S.rs[k].name.size≤100
    ·have hd:decide ((100:Int)<(S.rs[k].name.size:Int))=false:=by rw [decide_eq_false_iff_not];omega
     have HZ:=Lib.hid hsz
     clear hsz
     go_wp2
     go_round
     case rel=>exact ⟨k+1,false,by omega,by go_num,rfl,Lib.hid (fun _=>⟨HN.out.1,upto_step (p:=fun x=>x.name.size≤100) hlt (HN.out.2) HZ.out⟩)⟩
     case measure=>simp [intOf];omega
    ·have hd:decide ((100:Int)<(S.rs[k].name.size:Int))=true:=by rw [decide_eq_true_iff];omega
     clear hsz
     go_wp2
     go_round
     case rel=>exact ⟨k+1,true,by omega,by go_num,rfl,Lib.hid (fun h=>by cases h)⟩
     case measure=>simp [intOf];omega
  ·have hke:k=S.rs.length:=by omega
   have hk2:¬ ((k:Int)<(S.rs.length:Int)):=by omega
   have HN1:=hN
   rw [hke] at HN1
   clear hN
   go_wp2
   clear hke hk2 hlt hk
   go_loop [3,6] (fun u x=>∃ (k:Nat) (b:Bool),k≤S.ss.length∧x = .int .i64 k∧u = .bool b∧RowKit.Hid (b=false→(∀ j (h:j<S.ds.length),j<S.ds.length→S.ds[j].name.size≤100)∧(∀ j (h:j<S.rs.length),j<S.rs.length→S.rs[j].name.size≤100)∧(∀ j (h:j<S.ss.length),j<k→S.ss[j].name.size≤100∧S.ss[j].parts.length≤20))) (fun _ x=>S.ss.length-(intOf x).toNat)
   case atStart=>exact ⟨0,b1,by omega,rfl,rfl,Lib.hid (fun hb=>⟨(HN1.out hb).1,(HN1.out hb).2,fun j _ hj=>by omega⟩)⟩
   clear HN1
   obtain ⟨k,b2,hk,rfl,rfl,hN⟩:=hrel
   by_cases hlt:k<S.ss.length
   ·obtain ⟨bb,o,c,ev,hbl,r0,_,_,_,r4⟩:=HSP.out.sAt k hlt
    obtain ⟨ap,cp,efp⟩:=(HSP.out.p k hlt).form
    rw [List.length_map] at efp
    rw [efp] at r4
    clear efp
    cases ev
    have hk2:(k:Int)<(S.ss.length:Int):=by omega
    cases b2 with
    | true =>
     go_wp2
     go_round
     case rel=>exact ⟨k+1,true,by omega,by go_num,rfl,Lib.hid (fun h=>by cases h)⟩
     case measure=>simp [intOf];omega
    | false =>
     have HN:=Lib.hid (hN.out rfl)
     clear hN
     by_cases hsz:S.ss[k].name.size≤100
     ·have hd:decide ((100:Int)<(S.ss[k].name.size:Int))=false:=by rw [decide_eq_false_iff_not];omega
      have HZ:=Lib.hid hsz
      clear hsz
      by_cases hpz:S.ss[k].parts.length≤20
      ·have hd2:decide ((20:Int)<(S.ss[k].parts.length:Int))=false:=by rw [decide_eq_false_iff_not];omega
       have HZ2:=Lib.hid hpz
       clear hpz
       go_wp2
       go_round
       case rel=>exact ⟨k+1,false,by omega,by go_num,rfl,Lib.hid (fun _=>⟨HN.out.1,HN.out.2.1,upto_step (p:=fun x=>x.name.size≤100∧x.parts.length≤20) hlt (HN.out.2.2) ⟨HZ.out,HZ2.out⟩⟩)⟩
       case measure=>simp [intOf];omega
      ·have hd2:decide ((20:Int)<(S.ss[k].parts.length:Int))=true:=by rw [decide_eq_true_iff];omega
       clear hpz
       go_wp2
       go_round
       case rel=>exact ⟨k+1,true,by omega,by go_num,rfl,Lib.hid (fun h=>by cases h)⟩
       case measure=>simp [intOf];omega
     ·have hd:decide ((100:Int)<(S.ss[k].name.size:Int))=true:=by rw [decide_eq_true_iff];omega
      clear hsz
      go_wp2
      go_round
      case rel=>exact ⟨k+1,true,by omega,by go_num,rfl,Lib.hid (fun h=>by cases h)⟩
      case measure=>simp [intOf];omega
   ·have hke:k=S.ss.length:=by omega
    have hk2:¬ ((k:Int)<(S.ss.length:Int)):=by omega
    have HN2:=hN
    rw [hke] at HN2
    clear hN
    go_wp2
    clear hke hk2 hlt hk
    go_loop [3,7] (fun u x=>∃ (k:Nat) (b:Bool),k≤S.cs.length∧x = .int .i64 k∧u = .bool b∧RowKit.Hid (b=false→(∀ j (h:j<S.ds.length),j<S.ds.length→S.ds[j].name.size≤100)∧(∀ j (h:j<S.rs.length),j<S.rs.length→S.rs[j].name.size≤100)∧(∀ j (h:j<S.ss.length),j<S.ss.length→S.ss[j].name.size≤100∧S.ss[j].parts.length≤20)∧(∀ j (h:j<S.cs.length),j<k→S.cs[j].name.size≤100))) (fun _ x=>S.cs.length-(intOf x).toNat)
    case atStart=>exact ⟨0,b2,by omega,rfl,rfl,Lib.hid (fun hb=>⟨(HN2.out hb).1,(HN2.out hb).2.1,(HN2.out hb).2.2,fun j _ hj=>by omega⟩)⟩
    clear HN2
    obtain ⟨k,b3,hk,rfl,rfl,hN⟩:=hrel
    by_cases hlt:k<S.cs.length
    ·obtain ⟨bb,o,c,ev,hbl,r0,_⟩:=HSP.out.cAt k hlt
     cases ev
     have hk2:(k:Int)<(S.cs.length:Int):=by omega
     cases b3 with
     | true =>
      go_wp2
      go_round
      case rel=>exact ⟨k+1,true,by omega,by go_num,rfl,Lib.hid (fun h=>by cases h)⟩
      case measure=>simp [intOf];omega
     | false =>
      have HN:=Lib.hid (hN.out rfl)
      clear hN
      by_cases hsz:S.cs[k].name.size≤100
      ·have hd:decide ((100:Int)<(S.cs[k].name.size:Int))=false:=by rw [decide_eq_false_iff_not];omega
       have HZ:=Lib.hid hsz
       clear hsz
       go_wp2
       go_round
       case rel=>exact ⟨k+1,false,by omega,by go_num,rfl,Lib.hid (fun _=>⟨HN.out.1,HN.out.2.1,HN.out.2.2.1,upto_step (p:=fun x=>x.name.size≤100) hlt (HN.out.2.2.2) HZ.out⟩)⟩
       case measure=>simp [intOf];omega
      ·have hd:decide ((100:Int)<(S.cs[k].name.size:Int))=true:=by rw [decide_eq_true_iff];omega
       clear hsz
       go_wp2
       go_round
       case rel=>exact ⟨k+1,true,by omega,by go_num,rfl,Lib.hid (fun h=>by cases h)⟩
       case measure=>simp [intOf];omega
    ·have hke:k=S.cs.length:=by omega
     have hk2:¬ ((k:Int)<(S.cs.length:Int)):=by omega
     have HN3:=hN
     rw [hke] at HN3
     clear hN
     go_wp2
     go_ret
     exact farEnds_of (b:=b3) rfl (fun h=>by
      obtain ⟨n1,n2,n3,n4⟩:=HN3.out h
      exact ⟨by omega,by omega,by omega,by omega,fun x hx=>by have:=all_of_get (p:=fun x=>x.name.size≤100) n1 x hx;omega,fun x hx=>by have:=all_of_get (p:=fun x=>x.name.size≤100) n2 x hx;omega,fun x hx=>by have:=(all_of_get (p:=fun x=>x.name.size≤100∧x.parts.length≤20) n3 x hx).1;omega,fun x hx=>by have:=all_of_get (p:=fun x=>x.name.size≤100) n4 x hx;omega,fun x hx=>by have:=(all_of_get (p:=fun x=>x.name.size≤100∧x.parts.length≤20) n3 x hx).2;omega⟩) HB.out
theorem far_any (v1 v2 v3 v4:Value) (S:Sp) (w:World) (f:Nat→Value) (hsp:SpRd w v1 v2 v3 v4 f S) :
  Calls Tryz.prog 39 #[.agg #[v1,v2,v3,v4]] w (FarEnds S w):=by
 obtain ⟨⟨a1,c1,rfl⟩,⟨a2,c2,rfl⟩,⟨a3,c3,rfl⟩,⟨a4,c4,rfl⟩⟩:=hsp.forms
 by_cases h:S.ds.length≤10∧S.rs.length≤50∧S.ss.length≤100∧S.cs.length≤40
 ·obtain ⟨l1,l2,l3,l4⟩:=h
  exact far_short a1 a2 a3 a4 c1 c2 c3 c4 S w f hsp l1 l2 l3 l4
 ·exact far_long a1 a2 a3 a4 c1 c2 c3 c4 S w (by omega)
end Go.Proofs.YthhfmppealmblaaGreatDoor
namespace Go.Proofs.YthhfmppealmblaaGreatDoor
open Go.RowKit
def keysP (ds:List Dv):Int:=ds.foldl (fun a d=>max a (d.hi-d.lo+1)) 0
theorem keysP_take {ds:List Dv} {i:Nat} (h:i<ds.length):keysP (ds.take (i+1))=max (keysP (ds.take i)) (ds[i].hi-ds[i].lo+1):=by
 unfold keysP
 rw [List.take_succ_eq_append_getElem h,List.foldl_append]
 rfl
structure Small (S:Sp) (l:List Ev):Prop where
 ok:SpOk S
 len:l.length≤40∨20000<l.length∧l.length≤20100
 few:(checkP S).2=0→(pipesP S).1 * keysP S.ds * (S.ss.length+1)≤5000
def GreatE (S:Sp) (l:List Ev) (w:World) (e:Ending) (w':World):Prop:=∃ b,e = .returned (.bool b)∧(b=false→Small S l)∧Below w.heap.size w w'
theorem greatE_yes {S:Sp} {l:List Ev} {w w':World} (hb:Below w.heap.size w w'):GreatE S l w (.returned (.bool true)) w':=⟨true,rfl,(fun h=>by cases h),hb⟩
set_option maxRecDepth 100000 in
set_option maxHeartbeats 6400000 in
theorem great_any (v1 v2 v3 v4:Value) (S:Sp) (f:Nat→Value) (l:List Ev) (vl:Value) (w:World) (hsp:SpRd w v1 v2 v3 v4 f S) (hlv:ARd w vl 5 (l.map evC)) :
  Calls Tryz.prog 12 #[.agg #[v1,v2,v3,v4],vl] w (GreatE S l w):=by
 obtain ⟨al,cl,evl⟩:=hlv.evForm
 subst evl
 have hal:=(Below.refl _ w).alloc (Nat.le_refl w.heap.size) (.cells #[v1,v2,v3,v4] 27)
 have hk:=Blk.new w 27 #[v1,v2,v3,v4]
 have HFA:=Lib.hid (far_any v1 v2 v3 v4 S _ f (hsp.later hal))
 have HAL:=Lib.hid hal
 have HK:=Lib.hid hk
 have HSP:=Lib.hid hsp
 obtain ⟨s0,s1,s2,s3⟩:=hk.four
 clear hal hk hsp hlv
 go_enter Tryz.func12,Tryz.ntmps12
 go_wp2_with fail
 refine (HFA.out).mono ?_
 rintro e W ⟨b,rfl,hb0,hb⟩
 have HB1:=Lib.hid (below_step HAL.out hb)
 have HK1:=Lib.hid (HK.out.below hb)
 clear hb HFA HAL HK s0 s1 s2 s3
 cases b with
 | true =>
  go_wp2
  go_ret
  exact greatE_yes HB1.out
 | false =>
 have ok:=hb0 rfl
 have HOK:=Lib.hid ok
 have HRP:=Lib.hid (rpipes_any v1 v2 v3 v4 S ok W f (HSP.out.later HB1.out))
 clear hb0 ok
 by_cases g1:40<l.length
 ·have q1:(40:Int)<(l.length:Int):=by omega
  have d1:decide ((40:Int)<(l.length:Int))=true:=decide_eq_true q1
  by_cases g2:l.length≤20000
  ·have q2:(l.length:Int)≤20000:=by omega
   go_wp2
   go_ret
   exact greatE_yes HB1.out
  have d2:decide ((l.length:Int)≤20000)=false:=decide_eq_false (by omega)
  by_cases g3:20100<l.length
  ·have q3:(20100:Int)<(l.length:Int):=by omega
   go_wp2
   go_ret
   exact greatE_yes HB1.out
  have d3:decide ((20100:Int)<(l.length:Int))=false:=decide_eq_false (by omega)
  have HLE:RowKit.Hid (l.length≤40∨20000<l.length∧l.length≤20100):=Lib.hid (.inr ⟨by omega,by omega⟩)
  clear q1 g1 g2 g3
  obtain ⟨u0,u1,u2,u3⟩:=HK1.out.four
  go_wp2_with fail
  refine (HRP.out).mono ?_
  rintro e W2 ⟨rfl,hb2⟩
  have HB2:=Lib.hid (below_step HB1.out hb2)
  have HK2:=Lib.hid (HK1.out.below hb2)
  clear hb2 HRP HK1 HB1 u0 u1 u2 u3
  by_cases hc:(checkP S).2=0
  case neg =>
   have HN:=Lib.hid (show GreatE S l w (.returned (.bool false)) W2 from ⟨false,rfl,fun _=>⟨HOK.out,HLE.out,fun h=>absurd h hc⟩,HB2.out⟩)
   obtain ⟨⟨pn,pe⟩,hpe⟩:∃ q,pipesP S=q:=⟨_,rfl⟩
   have hpe2:pe≠0:=by
    have:=congrArg Prod.snd hpe
    unfold pipesP at this
    rw [if_neg hc] at this
    simp only at this
    rw [← this]
    exact hc
   rw [hpe]
   have q9:(pe==0)=false:=by simpa using hpe2
   clear hc hpe hpe2
   go_wp2
   go_ret
   exact HN.out
  have hsg:=spGood hc
  have hpe:pipesP S=(cntP S.rs,0):=if_pos hc
  obtain ⟨n0,n1⟩:=cntP_bound hsg.r
  have n2:=hsg.rs
  have n3:=hsg.ss
  have n4:=hsg.ds
  rw [hpe]
  obtain ⟨pn,hpn⟩:∃ pn,cntP S.rs=pn:=⟨_,rfl⟩
  rw [hpn] at hpe n0 n1 ⊢
  have HPE:=Lib.hid hpe
  have HSG:=Lib.hid hsg
  obtain ⟨⟨a1,c1,e1⟩,_,⟨a3,c3,e3⟩,_⟩:=HSP.out.forms
  subst e1 e3
  have HK0:RowKit.Hid (keysP (S.ds.take 0)=0):=Lib.hid rfl
  have HW0:=Lib.hid (Below.refl W2.heap.size W2)
  clear hc hsg hpe hpn
  go_wp2
  go_loopw [7,8] (fun k x wr=>∃ (i:Nat) (kk:Int),i≤S.ds.length∧x = .int .i64 i∧k = .int .i64 kk∧0≤kk∧kk≤61∧RowKit.Hid (keysP (S.ds.take i)=kk)∧RowKit.Hid (Below W2.heap.size W2 wr)) (fun _ x _=>S.ds.length-(intOf x).toNat)
  case atStart=>exact ⟨0,0,Nat.zero_le _,rfl,rfl,Int.le_refl _,by omega,HK0,HW0⟩
  clear HK0 HW0
  obtain ⟨i,kk,hi,rfl,rfl,hk0,hk1,hkk,hW⟩:=hrel
  have HKR:=Lib.hid (HK2.out.below hW.out)
  obtain ⟨t0,t1,t2,t3⟩:=HKR.out.four
  by_cases hil:i<S.ds.length
  ·have hi2:(i:Int)<(S.ds.length:Int):=by omega
   obtain ⟨b,o,c',ev,hbl,r0,r1,r2⟩:=(HSP.out.later (below_step HB2.out hW.out)).dAt i hil
   cases ev
   have hdk:=dv_ok (HSG.out.d _ (List.getElem_mem hil))
   have HKT:=Lib.hid (keysP_take hil)
   obtain ⟨lo,hlo⟩:∃ x,S.ds[i].lo=x:=⟨_,rfl⟩
   obtain ⟨hi',hhi⟩:∃ x,S.ds[i].hi=x:=⟨_,rfl⟩
   rw [hlo] at r1 hdk HKT
   rw [hhi] at r2 hdk HKT
   rw [hkk.out] at HKT
   have e4:IntKind.i64.wrap (hi'-lo)=hi'-lo:=IntWalk.i64_in _ (by omega)
   have e5:IntKind.i64.wrap (hi'-lo+1)=hi'-lo+1:=IntWalk.i64_in _ (by omega)
   have hdr:Below wr.heap.size wr wr.drew:=(Below.refl _ _).drew
   have HWD:=Lib.hid (below_step hW.out hdr)
   clear hlo hhi hkk hbl hdr r0
   have hmx:max kk (hi'-lo+1)=if kk≤hi'-lo+1 then hi'-lo+1 else kk:=by
    rw [Int.max_def]
   have HMX:=Lib.hid hmx
   clear hmx
   go_upto_region 10 with fail
   go_region
   have hm0:0≤max kk (hi'-lo+1):=Int.le_trans hk0 (Int.le_max_left _ _)
   have hm1:max kk (hi'-lo+1)≤61:=Int.max_le.2 ⟨hk1,by omega⟩
   go_wp2
   go_roundw
   case rel=>exact ⟨i+1,max kk (hi'-lo+1),by omega,by go_num,rfl,hm0,hm1,HKT,HWD⟩
   case measure=>simp [intOf];omega
  ·have hi2:¬ (i:Int)<(S.ds.length:Int):=by omega
   have hie:i=S.ds.length:=by omega
   have hkk2:=hkk.out
   rw [hie,List.take_length] at hkk2
   obtain ⟨m,hm⟩:∃ m:Int,(S.ss.length:Int)+1=m:=⟨_,rfl⟩
   have hz0:0≤pn * kk:=Int.mul_nonneg n0 hk0
   have hz1:pn * kk≤3880 * 61:=Int.mul_le_mul (by omega) hk1 hk0 (by omega)
   obtain ⟨z,hz⟩:∃ z,pn * kk=z:=⟨_,rfl⟩
   rw [hz] at hz0 hz1
   have hy0:0≤z * m:=Int.mul_nonneg hz0 (by omega)
   have hy1:z * m≤3880 * 61 * 81:=Int.mul_le_mul hz1 (by omega) (by omega) (by omega)
   obtain ⟨y,hy⟩:∃ y,z * m=y:=⟨_,rfl⟩
   rw [hy] at hy0 hy1
   have e4:IntKind.i64.wrap (pn * kk)=z:=by rw [hz];exact IntWalk.i64_in _ (by omega)
   have e5:IntKind.i64.wrap ((S.ss.length:Int)+1)=m:=by rw [hm];exact IntWalk.i64_in _ (by omega)
   have e6:IntKind.i64.wrap (z * m)=y:=by rw [hy];exact IntWalk.i64_in _ (by omega)
   have HFW:=Lib.hid (show ¬ 5000<y→(checkP S).2=0→(pipesP S).1 * keysP S.ds * (S.ss.length+1)≤5000 from fun h _=>by rw [HPE.out,hkk2];simp only;rw [hz,hm,hy];omega)
   have HB9:=Lib.hid (below_step HB2.out hW.out)
   clear hz hm hy hie hkk2 hkk
   by_cases h5:5000<y
   ·go_wp2
    go_ret
    exact ⟨true,by simp,(fun h=>by cases h),HB9.out⟩
   ·have d5:decide (5000<y)=false:=decide_eq_false h5
    go_wp2
    go_ret
    exact ⟨false,by simp,(fun _=>⟨HOK.out,HLE.out,HFW.out h5⟩),HB9.out⟩
 ·have d1:decide ((40:Int)<(l.length:Int))=false:=decide_eq_false (by omega)
  have d3:decide ((20100:Int)<(l.length:Int))=false:=decide_eq_false (by omega)
  have HLE:RowKit.Hid (l.length≤40∨20000<l.length∧l.length≤20100):=Lib.hid (.inl (by omega))
  clear g1
  obtain ⟨u0,u1,u2,u3⟩:=HK1.out.four
  go_wp2_with fail
  refine (HRP.out).mono ?_
  rintro e W2 ⟨rfl,hb2⟩
  have HB2:=Lib.hid (below_step HB1.out hb2)
  have HK2:=Lib.hid (HK1.out.below hb2)
  clear hb2 HRP HK1 HB1 u0 u1 u2 u3
  by_cases hc:(checkP S).2=0
  case neg =>
   have HN:=Lib.hid (show GreatE S l w (.returned (.bool false)) W2 from ⟨false,rfl,fun _=>⟨HOK.out,HLE.out,fun h=>absurd h hc⟩,HB2.out⟩)
   obtain ⟨⟨pn,pe⟩,hpe⟩:∃ q,pipesP S=q:=⟨_,rfl⟩
   have hpe2:pe≠0:=by
    have:=congrArg Prod.snd hpe
    unfold pipesP at this
    rw [if_neg hc] at this
    simp only at this
    rw [← this]
    exact hc
   rw [hpe]
   have q9:(pe==0)=false:=by simpa using hpe2
   clear hc hpe hpe2
   go_wp2
   go_ret
   exact HN.out
  have hsg:=spGood hc
  have hpe:pipesP S=(cntP S.rs,0):=if_pos hc
  obtain ⟨n0,n1⟩:=cntP_bound hsg.r
  have n2:=hsg.rs
  have n3:=hsg.ss
  have n4:=hsg.ds
  rw [hpe]
  obtain ⟨pn,hpn⟩:∃ pn,cntP S.rs=pn:=⟨_,rfl⟩
  rw [hpn] at hpe n0 n1 ⊢
  have HPE:=Lib.hid hpe
  have HSG:=Lib.hid hsg
  obtain ⟨⟨a1,c1,e1⟩,_,⟨a3,c3,e3⟩,_⟩:=HSP.out.forms
  subst e1 e3
  have HK0:RowKit.Hid (keysP (S.ds.take 0)=0):=Lib.hid rfl
  have HW0:=Lib.hid (Below.refl W2.heap.size W2)
  clear hc hsg hpe hpn
  go_wp2
  go_loopw [7,8] (fun k x wr=>∃ (i:Nat) (kk:Int),i≤S.ds.length∧x = .int .i64 i∧k = .int .i64 kk∧0≤kk∧kk≤61∧RowKit.Hid (keysP (S.ds.take i)=kk)∧RowKit.Hid (Below W2.heap.size W2 wr)) (fun _ x _=>S.ds.length-(intOf x).toNat)
  case atStart=>exact ⟨0,0,Nat.zero_le _,rfl,rfl,Int.le_refl _,by omega,HK0,HW0⟩
  clear HK0 HW0
  obtain ⟨i,kk,hi,rfl,rfl,hk0,hk1,hkk,hW⟩:=hrel
  have HKR:=Lib.hid (HK2.out.below hW.out)
  obtain ⟨t0,t1,t2,t3⟩:=HKR.out.four
  by_cases hil:i<S.ds.length
  ·have hi2:(i:Int)<(S.ds.length:Int):=by omega
   obtain ⟨b,o,c',ev,hbl,r0,r1,r2⟩:=(HSP.out.later (below_step HB2.out hW.out)).dAt i hil
   cases ev
   have hdk:=dv_ok (HSG.out.d _ (List.getElem_mem hil))
   have HKT:=Lib.hid (keysP_take hil)
   obtain ⟨lo,hlo⟩:∃ x,S.ds[i].lo=x:=⟨_,rfl⟩
   obtain ⟨hi',hhi⟩:∃ x,S.ds[i].hi=x:=⟨_,rfl⟩
   rw [hlo] at r1 hdk HKT
   rw [hhi] at r2 hdk HKT
   rw [hkk.out] at HKT
   have e4:IntKind.i64.wrap (hi'-lo)=hi'-lo:=IntWalk.i64_in _ (by omega)
   have e5:IntKind.i64.wrap (hi'-lo+1)=hi'-lo+1:=IntWalk.i64_in _ (by omega)
   have hdr:Below wr.heap.size wr wr.drew:=(Below.refl _ _).drew
   have HWD:=Lib.hid (below_step hW.out hdr)
   clear hlo hhi hkk hbl hdr r0
   have hmx:max kk (hi'-lo+1)=if kk≤hi'-lo+1 then hi'-lo+1 else kk:=by
    rw [Int.max_def]
   have HMX:=Lib.hid hmx
   clear hmx
   go_upto_region 10 with fail
   go_region
   have hm0:0≤max kk (hi'-lo+1):=Int.le_trans hk0 (Int.le_max_left _ _)
   have hm1:max kk (hi'-lo+1)≤61:=Int.max_le.2 ⟨hk1,by omega⟩
   go_wp2
   go_roundw
   case rel=>exact ⟨i+1,max kk (hi'-lo+1),by omega,by go_num,rfl,hm0,hm1,HKT,HWD⟩
   case measure=>simp [intOf];omega
  ·have hi2:¬ (i:Int)<(S.ds.length:Int):=by omega
   have hie:i=S.ds.length:=by omega
   have hkk2:=hkk.out
   rw [hie,List.take_length] at hkk2
   obtain ⟨m,hm⟩:∃ m:Int,(S.ss.length:Int)+1=m:=⟨_,rfl⟩
   have hz0:0≤pn * kk:=Int.mul_nonneg n0 hk0
   have hz1:pn * kk≤3880 * 61:=Int.mul_le_mul (by omega) hk1 hk0 (by omega)
   obtain ⟨z,hz⟩:∃ z,pn * kk=z:=⟨_,rfl⟩
   rw [hz] at hz0 hz1
   have hy0:0≤z * m:=Int.mul_nonneg hz0 (by omega)
   have hy1:z * m≤3880 * 61 * 81:=Int.mul_le_mul hz1 (by omega) (by omega) (by omega)
   obtain ⟨y,hy⟩:∃ y,z * m=y:=⟨_,rfl⟩
   rw [hy] at hy0 hy1
   have e4:IntKind.i64.wrap (pn * kk)=z:=by rw [hz];exact IntWalk.i64_in _ (by omega)
   have e5:IntKind.i64.wrap ((S.ss.length:Int)+1)=m:=by rw [hm];exact IntWalk.i64_in _ (by omega)
   have e6:IntKind.i64.wrap (z * m)=y:=by rw [hy];exact IntWalk.i64_in _ (by omega)
   have HFW:=Lib.hid (show ¬ 5000<y→(checkP S).2=0→(pipesP S).1 * keysP S.ds * (S.ss.length+1)≤5000 from fun h _=>by rw [HPE.out,hkk2];simp only;rw [hz,hm,hy];omega)
   have HB9:=Lib.hid (below_step HB2.out hW.out)
   clear hz hm hy hie hkk2 hkk
   by_cases h5:5000<y
   ·go_wp2
    go_ret
    exact ⟨true,by simp,(fun h=>by cases h),HB9.out⟩
   ·have d5:decide (5000<y)=false:=decide_eq_false h5
    go_wp2
    go_ret
    exact ⟨false,by simp,(fun _=>⟨HOK.out,HLE.out,HFW.out h5⟩),HB9.out⟩
end Go.Proofs.YthhfmppealmblaaGreatDoor
namespace Go.Proofs.YthhfmppealmblaaGreatDoor
open Go.RowKit
theorem ticks_mom {l:List Ev} (ha:Asc l):(momI l l.length).map (fun i=>(l.getD i ev0).1)=ticksL [] l:=by
 refine int_asc_ext ?_ (asc_ticksL List.Pairwise.nil) fun t=>?_
 ·have h:=momP_asc (B:=fun _ _=>false) ha (0,0)
  unfold momP at h
  rw [List.pairwise_map] at h ⊢
  exact h
 ·rw [List.mem_map,mem_ticksL]
  constructor
  ·rintro ⟨i,hi,rfl⟩
   have h:=(mem_momI.1 hi).1
   rw [getD_at h]
   exact .inr ⟨_,List.getElem_mem h,rfl⟩
  ·rintro (h | ⟨x,hx,rfl⟩)
   ·cases h
   ·obtain ⟨j,hj,rfl⟩:=List.getElem_of_mem hx
    obtain ⟨hle,hxx⟩:=upN_spec ha l[j].1
    have hjN:=(hxx j hj).2 (Int.le_refl _)
    obtain ⟨i,hi⟩:∃ i,upN l l[j].1=i+1:=⟨upN l l[j].1-1,by omega⟩
    have hil:i<l.length:=by omega
    have h1:=(hxx i hil).1 (by omega)
    have hm:momB l i=true:=by
     by_cases e:i+1=l.length
     ·exact momB_last e
     ·rw [momB_is (by omega),decide_eq_true_iff]
      have h2:¬ l[i+1].1≤l[j].1:=fun q=>by have:=(hxx (i+1) (by omega)).2 q;omega
      omega
    have h3:=ha j i hj hil (by omega)
    exact ⟨i,mem_momI.2 ⟨hil,hm⟩,by rw [getD_at hil];omega⟩
theorem foldl_cong {α β:Type} {f g:α→β→α}:∀ {l:List β} {a:α},(∀ a,∀ b∈l,f a b=g a b)→l.foldl f a=l.foldl g a
 | [],_,_=>rfl
 | x :: l,a,h=>by
  rw [List.foldl_cons,List.foldl_cons,h a x (List.mem_cons_self ..)]
  exact foldl_cong fun a b hb=>h a b (List.mem_cons_of_mem _ hb)
def pkR (S:Sp) (B:(Th→Int)→Pp→Bool) (l:List Ev) (T:List Int):Int × Int:=T.foldl (fun a t=>if a.2<((sndL S B (upF l t)).length:Int) then (t,((sndL S B (upF l t)).length:Int)) else a) (0,0)
theorem pkR_snoc (S:Sp) (B:(Th→Int)→Pp→Bool) (l:List Ev) (T:List Int) (t:Int):pkR S B l (T++[t])=if (pkR S B l T).2<((sndL S B (upF l t)).length:Int) then (t,((sndL S B (upF l t)).length:Int)) else pkR S B l T:=by
 unfold pkR
 rw [List.foldl_append]
 rfl
theorem pk_ref (S:Sp) (B:(Th→Int)→Pp→Bool) {l:List Ev} (ha:Asc l):pkR S B l (ticksL [] l)=pkP S B l (momI l l.length):=by
 unfold pkR pkP
 rw [← ticks_mom ha,List.foldl_map]
 refine foldl_cong fun a i hi=>?_
 obtain ⟨hil,hm⟩:=mem_momI.1 hi
 have hu:upF l (l.getD i ev0).1=onV (l.take (i+1)):=by unfold upF;rw [getD_at hil,upN_mom ha hil hm]
 rw [hu]
theorem pkV_ref (S:Sp) (B:(Th→Int)→Pp→Bool) {l:List Ev} (hE:audE S l=0) (ha:Asc l):pkV S B l=pkR S B l (ticksL [] l):=by
 unfold pkV
 rw [if_pos hE,pk_ref S B ha]
theorem pkV_ne (S:Sp) (B:(Th→Int)→Pp→Bool) {l:List Ev} (hE:audE S l≠0):pkV S B l=(0,0):=if_neg hE
theorem row_formN {W:World} {base:Nat} {t:TypeId} {k n:Nat} {v:Value} {xs:List Value} (h:W.ownsRow base t k v n xs):∃ a c,v = .slice a n c:=by
 rcases h.2 with ⟨rfl,rfl⟩ | ⟨g,cap,cur,rfl,_⟩
 ·exact ⟨_,_,rfl⟩
 ·exact ⟨_,_,rfl⟩
def LnR (n:Nat) (w:World) (e:Ending) (w':World):Prop:=∃ a c,e = .returned (.slice a n c)∧Below w.heap.size w w'
set_option maxRecDepth 100000 in
set_option maxHeartbeats 12800000 in
theorem peak34_any (v1 v2 v3 v4:Value) (S:Sp) (ok:SpOk S) (fp:Nat→Value) (l:List Ev) (vl:Value) (B:(Th→Int)→Pp→Bool) (hB:SndIs S B) (w:World) (hsp:SpRd w v1 v2 v3 v4 fp S) (hlv:ARd w vl 5 (l.map evC)) (hl:l.length≤50000) :
  Calls Tryz.prog 29 #[.agg #[v1,v2,v3,v4],vl] w (PkE S B l w):=by
 have HB0:=Lib.hid (show Below w.heap.size w (w.alloc (.cells #[v1,v2,v3,v4] 27)) from (Below.refl _ w).alloc (Nat.le_refl _) _)
 have B0:=Lib.hid (Blk.new w 27 #[v1,v2,v3,v4])
 have HCK:=Lib.hid (fun (W:World) (hb:Below w.heap.size w W)=>rcheck34_any v1 v2 v3 v4 S ok fp l vl W (hsp.later hb) (by omega) (hlv.later hb))
 have HTK:=Lib.hid (fun (W:World) (hb:Below w.heap.size w W)=>ticks34_any l vl W (hlv.later hb) hl)
 have HSO:=Lib.hid (fun (h0:(recE S l).2=0) (t:Int) (W:World) (hb:Below w.heap.size w W)=>sounding34_any v1 v2 v3 v4 S ok fp l h0 vl t B hB W (hsp.later hb) (hlv.later hb))
 clear hsp hlv ok hB
 go_enter Tryz.func29,Tryz.ntmps29
 go_wp2_with fail
 refine (HCK.out _ HB0.out).mono ?_
 rintro e W ⟨rfl,hb⟩
 have HB1:=Lib.hid (below_step HB0.out hb)
 have B1:=Lib.hid (B0.out.below hb)
 clear HCK hb B0 HB0
 by_cases hE:audE S l=0
 case neg =>
  have HN:=Lib.hid (pkV_ne S B hE)
  obtain ⟨e0,he0⟩:∃ e0,audE S l=e0:=⟨_,rfl⟩
  have HE:=Lib.hid he0
  rw [he0] at hE ⊢
  have q1:(e0==0)=false:=by simpa using hE
  clear he0 hE
  go_wp2
  go_ret3
  exact ⟨by show Ending.returned (.tuple #[.int .i64 0,.int .i64 0,.int .i64 e0])=_;rw [HN.out,HE.out],HB1.out⟩
 have HE:=Lib.hid hE
 rw [hE]
 obtain ⟨hck,hrk⟩:=audE_parts hE
 have HAS:=Lib.hid (audE_ok hE)
 have hll:=((recE_iff hck).1 hrk).1
 have HSO2:=Lib.hid (HSO.out hrk)
 clear hE HSO hck hrk
 go_wp2_with fail
 refine (HTK.out _ HB1.out).mono ?_
 rintro e W3 ⟨vt,rfl,ht,hb⟩
 have hT:=Lib.hid ht
 have HBW:=Lib.hid (below_step HB1.out hb)
 have HB3:=Lib.hid (B1.out.below hb)
 have HLT:=len_ticksL [] l
 rw [List.length_nil] at HLT
 obtain ⟨T,hTn⟩:∃ T,ticksL [] l=T:=⟨_,rfl⟩
 have HTT:=Lib.hid hTn
 rw [hTn] at hT HLT ht
 have hlT:T.length≤50000:=by omega
 obtain ⟨ta,tc,etv⟩:=ht.rd.intForm
 subst etv
 have HR0:=Lib.hid (Below.refl W3.heap.size W3)
 clear ht hb B1 HB1 HTK hTn HLT
 go_wp2
 go_loopw [9,10,11] (fun t m x wx=>∃ i:Nat,i≤T.length∧t = .int .i64 (pkR S B l (T.take i)).1∧m = .int .i64 (pkR S B l (T.take i)).2∧x = .int .i64 i∧RowKit.Hid (Below W3.heap.size W3 wx)) (fun _ _ x _=>T.length-(intOf x).toNat)
 case atStart=>exact ⟨0,Nat.zero_le _,rfl,rfl,rfl,HR0⟩
 clear HR0
 obtain ⟨j,hj,rfl,rfl,rfl,hJ⟩:=hrel
 obtain ⟨t0,ht0⟩:∃ q,(pkR S B l (T.take j)).1=q:=⟨_,rfl⟩
 obtain ⟨m0,hm0⟩:∃ q,(pkR S B l (T.take j)).2=q:=⟨_,rfl⟩
 rw [ht0,hm0]
 have HBX:=Lib.hid (below_step HBW.out hJ.out)
 obtain ⟨s0,s1,s2,s3⟩:=(HB3.out.below hJ.out).four
 by_cases hjl:j<T.length
 ·have hi3:(j:Int)<(T.length:Int):=by omega
  obtain ⟨bt,ot,c',ev,hbt,q00⟩:=hT.out.rd.intAt j hjl
  cases ev
  have q0:=(hJ.out.cell hbt).trans q00
  have HNX:=Lib.hid (show pkR S B l (T.take (j+1))=_ by rw [List.take_succ_eq_append_getElem hjl,pkR_snoc,hm0])
  obtain ⟨tk,htk⟩:∃ tk,T[j]=tk:=⟨_,rfl⟩
  rw [htk] at q0 HNX q00
  have HQ0:=Lib.hid q00
  have HP0:=Lib.hid (And.intro ht0 hm0)
  obtain ⟨ns,hns⟩:∃ q,(sndL S B (upF l tk)).length=q:=⟨_,rfl⟩
  have HC1:=Lib.hid (fun (W:World) (hb:Below w.heap.size w W)=>(HSO2.out tk W hb).mono (R':=LnR ns W) (fun e w' h=>by
   obtain ⟨v,rfl,hrow,hbb⟩:=h
   obtain ⟨a,c,rfl⟩:=row_formN hrow
   rw [hns]
   exact ⟨a,c,rfl,hbb⟩))
  rw [hns] at HNX
  have hdr:=hold5 (W0:=wr) ⟨Below.refl _ wr,s0,s1,s2,s3,q0⟩ ((Below.refl _ wr).drew)
  clear htk q00 ht0 hm0 hns
  go_upto_region 9 with fail
  go_region_held3 (fun w'=>Below wr.heap.size wr w'∧w'.cell? ⟨w.heap.size,0,none⟩=some v1∧w'.cell? ⟨w.heap.size,1,none⟩=some v2∧w'.cell? ⟨w.heap.size,2,none⟩=some v3∧w'.cell? ⟨w.heap.size,3,none⟩=some v4∧w'.cell? ⟨bt,ot+j,none⟩=some (.int .i64 tk)) (first | exact hdr | assumption) (first | (go_at_call 21;(with_reducible refine (HC1.out _ (below_step HBX.out hdr.1)).mono ?_);rintro e w2 ⟨sa,sc,rfl,hb2⟩;have hn:=hold5 hdr hb2;clear hb2))
  have HJ2:=Lib.hid (below_step hJ.out hn.1)
  clear hdr hn s0 s1 s2 s3 q0 HC1
  by_cases hlt:m0<(ns:Int)
  ·have HF:=Lib.hid (HNX.out.trans (if_pos hlt))
   have e1:(pkR S B l (T.take (j+1))).1=tk:=by rw [HF.out]
   have e2:(pkR S B l (T.take (j+1))).2=(ns:Int):=by rw [HF.out]
   have HE12:=Lib.hid (And.intro e1 e2)
   have hd1:decide (m0<(ns:Int))=true:=decide_eq_true hlt
   clear e1 e2 hlt
   go_wp2
   go_roundw
   case rel=>exact ⟨j+1,by omega,by rw [HE12.out.1],by rw [HE12.out.2],by go_num,HJ2⟩
   case measure=>simp [intOf];omega
  ·have HF:=Lib.hid (HNX.out.trans (if_neg hlt))
   have hd1:decide (m0<(ns:Int))=false:=decide_eq_false hlt
   clear hlt
   go_wp2
   go_roundw
   case rel=>exact ⟨j+1,by omega,by rw [HF.out,HP0.out.1],by rw [HF.out,HP0.out.2],by go_num,HJ2⟩
   case measure=>simp [intOf];omega
 ·have hi3:¬ (j:Int)<(T.length:Int):=by omega
  have hje:j=T.length:=by omega
  rw [hje,List.take_length] at ht0 hm0
  have HV:=Lib.hid (show pkV S B l=(t0,m0) by rw [pkV_ref S B HE.out HAS.out.asc,HTT.out,← ht0,← hm0])
  clear hje ht0 hm0 s0 s1 s2 s3
  go_wp2
  go_ret3
  exact ⟨by show Ending.returned (.tuple #[.int .i64 t0,.int .i64 m0,.int .i64 0])=_;rw [HV.out,HE.out],HBX.out⟩
end Go.Proofs.YthhfmppealmblaaGreatDoor
namespace Go.Proofs.YthhfmppealmblaaGreatDoor
def wtR:List (Int × Bool)→Int
 | []=>0
 | [_]=>0
 | (u,b) :: (v,c) :: r=>(if b then v-u else 0)+wtR ((v,c) :: r)
def tmR:Bool→List (Int × Bool)→Int
 | _,[]=>0
 | was,(_,b) :: ms=>(if b && !was then 1 else 0)+tmR b ms
def lstB (was:Bool):List (Int × Bool)→Bool
 | []=>was
 | (_,b) :: ms=>lstB b ms
theorem lstB_snoc {u:Int} {b:Bool}:∀ {was:Bool} {ms:List (Int × Bool)},lstB was (ms++[(u,b)])=b
 | _,[]=>rfl
 | _,(_,_) :: ms=>lstB_snoc (ms:=ms)
theorem tmR_snoc {u:Int} {b:Bool}:∀ {was:Bool} {ms:List (Int × Bool)},tmR was (ms++[(u,b)])=tmR was ms+(if b && !(lstB was ms) then 1 else 0)
 | was,[]=>by simp [tmR,lstB]
 | was,(v,c) :: ms=>by rw [List.cons_append,tmR,tmR,tmR_snoc,lstB];omega
theorem wtR_snoc {u v:Int} {b c:Bool}:∀ {ms:List (Int × Bool)},wtR (ms++[(u,b),(v,c)])=wtR (ms++[(u,b)])+(if b then v-u else 0)
 | []=>by simp [wtR]
 | [x]=>by simp [wtR]
 | x :: y :: ms=>by
  have ih:=wtR_snoc (u:=u) (v:=v) (b:=b) (c:=c) (ms:=y :: ms)
  obtain ⟨x1,x2⟩:=x
  obtain ⟨y1,y2⟩:=y
  simp only [List.cons_append,wtR] at ih ⊢
  rw [ih]
  omega
theorem tmR_nonneg:∀ {was:Bool} {ms:List (Int × Bool)},0≤tmR was ms∧tmR was ms≤ms.length
 | _,[]=>by simp [tmR]
 | was,(_,b) :: ms=>by
  have:=tmR_nonneg (was:=b) (ms:=ms)
  rw [tmR,List.length_cons]
  push_cast
  split <;> omega
def wcT (last:Int):List Cg→Int
 | []=>0
 | x :: l=>x.2.2.1 * (last-x.1)+wcT last l
def wcN:List Cg→Int
 | []=>0
 | x :: l=>max 0 x.2.2.1+wcN l
theorem wcT_append (last:Int) (a b:List Cg):wcT last (a++b)=wcT last a+wcT last b:=by
 induction a with
 | nil=>simp [wcT]
 | cons x a ih=>rw [List.cons_append,wcT,wcT,ih];omega
theorem wcN_append (a b:List Cg):wcN (a++b)=wcN a+wcN b:=by
 induction a with
 | nil=>simp [wcN]
 | cons x a ih=>rw [List.cons_append,wcN,wcN,ih];omega
theorem wcN_chP (p:Pp):∀ (was:Bool) (ms:List (Int × Bool)),wcN (chP p was ms)=tmR was ms
 | _,[]=>rfl
 | was,(u,b) :: ms=>by
  rw [chP,wcN_append,wcN_chP p b ms,tmR]
  congr 1
  cases b <;> cases was <;> rfl
theorem wcT_chP (p:Pp) (last:Int):∀ (was:Bool) (ms:List (Int × Bool)) (u:Int) (b:Bool),(ms++[(u,b)]).getLast?.map (·.1)=some last→wcT last (chP p was (ms++[(u,b)]))+nB was * (last-((ms++[(u,b)]).head?.map (·.1)).getD 0)=wtR (ms++[(u,b)])
 | was,[],u,b,h=>by
  have:u=last:=by simpa using h
  subst this
  simp only [List.nil_append,chP,List.append_nil,wtR]
  split <;> simp [wcT]
 | was,(v,c) :: ms,u,b,h=>by
  have h2:(ms++[(u,b)]).getLast?.map (·.1)=some last:=by
   rw [← h,List.cons_append]
   cases ms with
   | nil=>rfl
   | cons y ms=>rfl
  have ih:=wcT_chP p last c ms u b h2
  rw [List.cons_append,chP,wcT_append]
  obtain ⟨⟨z,d⟩,r,e⟩:∃ zd r,ms++[(u,b)]=zd :: r:=by
   cases ms with
   | nil=>exact ⟨_,_,rfl⟩
   | cons y ms=>exact ⟨_,_,rfl⟩
  rw [e] at ih ⊢
  simp only [List.head?_cons,Option.map_some,Option.getD_some] at ih ⊢
  rw [wtR,← ih]
  have k:wcT last (if c=was then [] else [(v,p,nB c-nB was,0)])=(nB c-nB was) * (last-v):=by
   split
   ·next q=>rw [q,Int.sub_self,Int.zero_mul];rfl
   ·simp [wcT]
  rw [k,Int.sub_mul]
  cases c
  ·simp only [nB,Bool.false_eq_true,if_false,Int.zero_mul]
   omega
  ·simp only [nB,if_true,Int.one_mul]
   omega
theorem chP_nil (p:Pp):∀ (ms:List (Int × Bool)),chP p false ms=[] ↔ tmR false ms=0
 | []=>⟨fun _=>rfl,fun _=>rfl⟩
 | (u,b) :: ms=>by
  rw [chP,tmR]
  cases b with
  | true =>
   have:=tmR_nonneg (was:=true) (ms:=ms)
   simp
   omega
  | false =>
   have:=chP_nil p ms
   simpa using this
theorem mom_ticks (B:(Th→Int)→Pp→Bool) {l:List Ev} (ha:Asc l) (p:Pp):(ticksL [] l).map (fun t=>(t,B (upF l t) p))=momP B l p l.length:=by
 unfold momP
 rw [← ticks_mom ha,List.map_map]
 refine List.map_congr_left fun i hi=>?_
 obtain ⟨hil,hm⟩:=mem_momI.1 hi
 simp only [Function.comp]
 have hu:upF l (l.getD i ev0).1=onV (l.take (i+1)):=by unfold upF;rw [getD_at hil,upN_mom ha hil hm]
 rw [hu]
def wrN (B:(Th→Int)→Pp→Bool) (l:List Ev) (p:Pp):Int:=tmR false (momP B l p l.length)
def wrT (B:(Th→Int)→Pp→Bool) (l:List Ev) (p:Pp):Int:=wtR (momP B l p l.length)
abbrev We:=Pp × Int × Int
def wearL (S:Sp) (B:(Th→Int)→Pp→Bool) (l:List Ev):List We:=((allFrom 0 S.rs).filter fun p=>decide (0<wrN B l p)).map fun p=>(p,wrN B l p,wrT B l p)
def wearV (S:Sp) (B:(Th→Int)→Pp→Bool) (l:List Ev):List We:=if audE S l=0 then wearL S B l else []
def weLt (a b:We):Prop:=ppLt a.1 b.1
theorem wearL_asc (S:Sp) (B:(Th→Int)→Pp→Bool) (l:List Ev):(wearL S B l).Pairwise weLt:=by
 unfold wearL
 rw [List.pairwise_map]
 exact (asc_allFrom 0 S.rs).sublist List.filter_sublist
theorem mem_wearL {S:Sp} {B:(Th→Int)→Pp→Bool} {l:List Ev} {x:We}:x∈wearL S B l ↔ x.1∈allFrom 0 S.rs∧0<wrN B l x.1∧x.2.1=wrN B l x.1∧x.2.2=wrT B l x.1:=by
 unfold wearL
 rw [List.mem_map]
 constructor
 ·rintro ⟨p,hp,rfl⟩
  have h:=List.mem_filter.1 hp
  exact ⟨h.1,of_decide_eq_true h.2,rfl,rfl⟩
 ·rintro ⟨h1,h2,h3,h4⟩
  obtain ⟨p,a,b⟩:=x
  simp only at h1 h2 h3 h4
  subst h3 h4
  exact ⟨p,List.mem_filter.2 ⟨h1,decide_eq_true h2⟩,rfl⟩
theorem weLt_irrefl (a:We):¬ weLt a a:=ppLt_irrefl _
theorem weLt_asymm {a b:We} (h:weLt a b):¬ weLt b a:=fun k=>ppLt_irrefl _ (ppLt_trans h k)
theorem wear_one {S:Sp} {B:(Th→Int)→Pp→Bool} {l:List Ev} {m:List We} (hs:m.Pairwise weLt) (hm:∀ x,x∈m ↔ x.1∈allFrom 0 S.rs∧0<wrN B l x.1∧x.2.1=wrN B l x.1∧x.2.2=wrT B l x.1):m=wearL S B l :=
 lt_same weLt_irrefl (fun _ _=>weLt_asymm) hs (wearL_asc S B l) fun x=>(hm x).trans mem_wearL.symm
theorem mom_last {B:(Th→Int)→Pp→Bool} {l:List Ev} (hl:l≠[]) (p:Pp):∃ ms b,momP B l p l.length=ms++[((l.getD (l.length-1) ev0).1,b)]:=by
 have h0:0<l.length:=List.length_pos_iff.2 hl
 obtain ⟨n,hn⟩:∃ n,l.length=n+1:=⟨l.length-1,by omega⟩
 unfold momP
 rw [hn,momI_succ,momB_last hn.symm,if_pos rfl,List.map_append]
 exact ⟨_,_,rfl⟩
theorem wear_sums {B:(Th→Int)→Pp→Bool} {l:List Ev} {out:List Cg} (ho:ChgOf B l out) (hl:l≠[]) (p:Pp):wcN (ofP p out)=wrN B l p∧wcT (l.getD (l.length-1) ev0).1 (ofP p out)=wrT B l p:=by
 rw [ho p]
 unfold chL wrN wrT
 obtain ⟨ms,b,e⟩:=mom_last (B:=B) hl p
 refine ⟨wcN_chP _ _ _,?_⟩
 rw [e]
 have h:=wcT_chP p (l.getD (l.length-1) ev0).1 false ms (l.getD (l.length-1) ev0).1 b (by simp)
 rw [← h]
 simp [nB]
theorem wear_in {B:(Th→Int)→Pp→Bool} {l:List Ev} {out:List Cg} (ho:ChgOf B l out) (p:Pp):(∃ x∈out,x.2.1=p) ↔ 0<wrN B l p:=by
 have h1:(∃ x∈out,x.2.1=p) ↔ ofP p out≠[]:=by
  unfold ofP
  constructor
  ·rintro ⟨x,hx,e⟩ h
   have:x∈out.filter fun x=>decide (x.2.1=p):=List.mem_filter.2 ⟨hx,by simpa using e⟩
   rw [h] at this
   cases this
  ·intro h
   obtain ⟨x,hx⟩:=List.exists_mem_of_ne_nil _ h
   have:=List.mem_filter.1 hx
   exact ⟨x,this.1,by simpa using this.2⟩
 rw [h1,ho p]
 unfold chL wrN
 have:=chP_nil p (momP B l p l.length)
 have h2:=(tmR_nonneg (was:=false) (ms:=momP B l p l.length)).1
 constructor
 ·intro h
  rcases Int.lt_or_le 0 (tmR false (momP B l p l.length)) with q | q
  ·exact q
  ·exact absurd (this.2 (by omega)) h
 ·intro h q
  have:=this.1 q
  omega
end Go.Proofs.YthhfmppealmblaaGreatDoor
