/-
  A part of the proof: AW, F1c, LG, TA, TB.
-/
import Derived.Test.YthhfmppealmblaaGreatDoorS02
import Derived.Deep.RegionHeld3
import Derived.Test.YthhfmppealmblaaGreatDoorQ02
import Derived.Test.YthhfmppealmblaaGreatDoorQ04
import Derived.Test.YthhfmppealmblaaGreatDoorQ16
import Derived.Test.YthhfmppealmblaaGreatDoorQ07
import Derived.Test.YthhfmppealmblaaGreatDoorQ20
namespace Go.Proofs.YthhfmppealmblaaGreatDoor
open Go.RowKit
theorem ard_cls {W:World} {b:Nat} {t:TypeId} (h:Blk W b t #[.int .i64 0,.int .i64 40,.int .i64 10,.int .i64 30,.int .i64 0,.int .i64 52,.int .i64 20,.int .i64 60]):ARd W (.slice (some ⟨b,0,none⟩) 2 2) 4 (exCl.map clC) :=
 ARd.of_blk (k:=4) (rows:=exCl.map clC) h (by intro r hr; obtain ⟨x,_,rfl⟩:=List.mem_map.1 hr; rfl) rfl _ _ rfl
theorem ard_fas {W:World} {b:Nat} {t:TypeId} (h:Blk W b t #[.int .i64 1,.int .i64 0,.int .i64 52,.int .i64 10,.int .i64 20,.int .i64 2,.int .i64 0,.int .i64 52,.int .i64 50,.int .i64 60]):ARd W (.slice (some ⟨b,0,none⟩) 2 2) 5 (([(1,(0,52),10,20),(2,(0,52),50,60)]:List Fa).map faC) :=
 ARd.of_blk (k:=5) (rows:=([(1,(0,52),10,20),(2,(0,52),50,60)]:List Fa).map faC) h (by intro r hr; obtain ⟨x,_,rfl⟩:=List.mem_map.1 hr; rfl) rfl _ _ rfl
set_option maxRecDepth 100000 in
set_option maxHeartbeats 6400000 in
theorem awake_any (w:World) (t:Tabs w):Calls Tryz.prog 13 #[] w (BoR true w):=by
 have HT:=Lib.hid t
 clear t
 go_enter Tryz.func13,Tryz.ntmps13
 go_wp2_with fail
 refine (example_any w).mono ?_
 rintro e W1 ⟨rfl,hm,hb1⟩
 have HM1:=Lib.hid hm
 have HB1:=Lib.hid hb1
 clear hm hb1
 go_wp2_with fail
 refine (events_any W1).mono ?_
 rintro e W2 ⟨rfl,hev,hb2⟩
 have hsr:=(HM1.out.below hb2).rd
 obtain ⟨p,hp⟩:∃ p,w.heap.size=p:=⟨_,rfl⟩
 rw [hp] at hsr ⊢
 obtain ⟨pe,hpe⟩:∃ p,W1.heap.size=p:=⟨_,rfl⟩
 rw [hpe] at hev ⊢
 have HB2:=Lib.hid (below_step HB1.out hb2)
 have HP:=Lib.hid hp
 have hal:Below W2.heap.size W2 (W2.alloc (.cells #[.slice (some ⟨p + 3,0,none⟩) 1 1,.slice (some ⟨p + 4,0,none⟩) 2 2,.slice (some ⟨p + 8,0,none⟩) 3 3,.slice (some ⟨p + 9,0,none⟩) 1 1] 27)):=(Below.refl _ _).alloc (Nat.le_refl _) _
 have hk:=Blk.new W2 27 #[.slice (some ⟨p + 3,0,none⟩) 1 1,.slice (some ⟨p + 4,0,none⟩) 2 2,.slice (some ⟨p + 8,0,none⟩) 3 3,.slice (some ⟨p + 9,0,none⟩) 1 1]
 have HSR:=Lib.hid (hsr.later hal)
 have HEV:=Lib.hid (hev.later hal)
 have HK:=Lib.hid hk
 have HB3:=Lib.hid (below_step HB2.out hal)
 clear hsr hev hp hpe hb2 HM1 HB1 HB2 hal hk
 go_upto_region 2 with fail
 obtain ⟨P,hP⟩:∃ P,W2.heap.size=P:=⟨_,rfl⟩
 rw [hP] at HK ⊢
 generalize W2.alloc (.cells #[.slice (some ⟨p + 3,0,none⟩) 1 1,.slice (some ⟨p + 4,0,none⟩) 2 2,.slice (some ⟨p + 8,0,none⟩) 3 3,.slice (some ⟨p + 9,0,none⟩) 1 1] 27)=W3 at *
 obtain ⟨v1,hv1⟩:∃ v:Value,.slice (some ⟨p + 3,0,none⟩) 1 1=v:=⟨_,rfl⟩
 obtain ⟨v2,hv2⟩:∃ v:Value,.slice (some ⟨p + 4,0,none⟩) 2 2=v:=⟨_,rfl⟩
 obtain ⟨v3,hv3⟩:∃ v:Value,.slice (some ⟨p + 8,0,none⟩) 3 3=v:=⟨_,rfl⟩
 obtain ⟨v4,hv4⟩:∃ v:Value,.slice (some ⟨p + 9,0,none⟩) 1 1=v:=⟨_,rfl⟩
 rw [hv1,hv2,hv3,hv4] at HK HSR
 try rw [hv1]
 try rw [hv2]
 try rw [hv3]
 try rw [hv4]
 clear hP hv1 hv2 hv3 hv4
 obtain ⟨s0,s1,s2,s3⟩:=HK.out.four
 have hdr:=hold4 (W0:=W3) ⟨Below.refl _ W3,s0,s1,s2,s3⟩ ((Below.refl _ W3).drew)
 have HCLM:=Lib.hid (fun (W:World) (hb:Below W3.heap.size W3 W) (b:Nat) (hk:Blk W b 47 #[.int .i64 0,.int .i64 40,.int .i64 10,.int .i64 30,.int .i64 0,.int .i64 52,.int .i64 20,.int .i64 60])=>aclaims_any v1 v2 v3 v4 (exS 37) (exS_ok 37) _ exEv (.slice (some ⟨pe,0,none⟩) 7 7) exCl (.slice (some ⟨b,0,none⟩) 2 2) (sndB (exS 37)) (sndB_is exS_thr) W (HT.out.below (below_step HB3.out hb)) (HSR.out.later hb) (HEV.out.later hb) (ard_cls hk) (by decide) (by decide))
 clear s0 s1 s2 s3
 go_region_held3 (fun w'=>Below W3.heap.size W3 w'∧w'.cell? ⟨P,0,none⟩=some v1∧w'.cell? ⟨P,1,none⟩=some v2∧w'.cell? ⟨P,2,none⟩=some v3∧w'.cell? ⟨P,3,none⟩=some v4) (first | exact hdr | assumption | exact hold4 (by assumption) ((Below.refl _ _).alloc (Nat.le_refl _) _)) (first | (go_at_call 38; (with_reducible refine (flute_any 40 _).mono ?_); rintro e w5 ⟨rfl,hb5⟩; have hn5:=hold4 hdr hb5; clear hb5) | (go_at_call 38; (with_reducible refine (flute_any 52 _).mono ?_); rintro e w6 ⟨rfl,hb6⟩; have hn6:=hold4 hn5 hb6; clear hb6) | (go_at_call 14; refine (HCLM.out _ (hn6.1.alloc hn6.1.size _) _ (Blk.new _ _ _)).mono ?_; rintro e w8 ⟨vf,mf,cf,rfl,hrow,hcl,hb8⟩; obtain ⟨rfl,rfl⟩:=ex_out hcl; have hn8:=hold4 (hold4 hn6 ((Below.refl _ _).alloc (Nat.le_refl _) _)) hb8; clear hb8 hcl))
 have HB8:=Lib.hid (below_step HB3.out hn8.1)
 have HRF:=Lib.hid (ARd.of_fas hrow)
 have HPK:=Lib.hid (peak_any v1 v2 v3 v4 (exS 37) (exS_ok 37) _ exEv (.slice (some ⟨pe,0,none⟩) 7 7) (sndB (exS 37)) (sndB_is exS_thr) w8 (HT.out.below HB8.out) (HSR.out.later hn8.1) (HEV.out.later hn8.1) (by decide))
 obtain ⟨_,s0,s1,s2,s3⟩:=hn8
 clear hdr hn5 hn6 hrow HCLM HSR HEV
 go_wp2_with fail
 refine (HPK.out).mono ?_
 rintro e w9 ⟨rfl,hb9⟩
 rw [ex_pk,ex_aud]
 have HB9:=Lib.hid (below_step HB8.out hb9)
 have HF9:=Lib.hid (HRF.out.later hb9)
 clear hb9 HPK s0 s1 s2 s3 HRF HB8
 dsimp only
 go_wp2_with fail
 refine (flute_any 52 _).mono ?_
 rintro e wa ⟨rfl,hba⟩
 have HBa:=Lib.hid (below_step HB9.out hba)
 have HFa:=Lib.hid (HF9.out.later hba)
 clear hba HB9 HF9
 go_wp2_with fail
 refine (flute_any 52 _).mono ?_
 rintro e wb ⟨rfl,hbb⟩
 have hbb2:Below wb.heap.size wb (wb.alloc (.cells #[.int .i64 1,.int .i64 0,.int .i64 52,.int .i64 10,.int .i64 20,.int .i64 2,.int .i64 0,.int .i64 52,.int .i64 50,.int .i64 60] 52)):=(Below.refl _ _).alloc (Nat.le_refl _) _
 have HBb:=Lib.hid (below_step HBa.out (below_step hbb hbb2))
 have HSM:=Lib.hid (same_any _ _ vf (.slice (some ⟨wb.heap.size,0,none⟩) 2 2) _ (HFa.out.later (below_step hbb hbb2)) (ard_fas (Blk.new wb 52 #[.int .i64 1,.int .i64 0,.int .i64 52,.int .i64 10,.int .i64 20,.int .i64 2,.int .i64 0,.int .i64 52,.int .i64 50,.int .i64 60])) (by decide))
 rw [decide_eq_true rfl] at HSM
 clear hbb hbb2 HBa HFa
 go_wp2_with fail
 refine (HSM.out).mono ?_
 rintro e wc ⟨rfl,hbc⟩
 have HBc:=Lib.hid (below_step HBb.out hbc)
 clear hbc HSM HBb
 go_wp2
 go_ret
 exact ⟨rfl,HBc.out⟩
end Go.Proofs.YthhfmppealmblaaGreatDoor
namespace Go.Proofs.YthhfmppealmblaaGreatDoor
open Go.RowKit
def FarEnds (S:Sp) (w:World) (e:Ending) (w':World):Prop:=∃ b,e = .returned (.bool b)∧(b=false→SpOk S)∧Below w.heap.size w w'
theorem farEnds_yes {S:Sp} {w w':World} {v:Value} (hv:v = .bool true) (hb:Below w.heap.size w w'):FarEnds S w (.returned v) w':=⟨true,by rw [hv],(fun h=>by cases h),hb⟩
theorem farEnds_of {S:Sp} {w w':World} {v:Value} {b:Bool} (hv:v = .bool b) (h:b=false→SpOk S) (hb:Below w.heap.size w w'):FarEnds S w (.returned v) w':=⟨b,by rw [hv],h,hb⟩
theorem all_of_get {α:Type} {l:List α} {p:α→Prop} (h:∀ j (h:j < l.length),j < l.length→p l[j]):∀ x∈l,p x:=by
 intro x hx
 obtain ⟨j,hj,rfl⟩:=List.mem_iff_getElem.1 hx
 exact h j hj hj
theorem upto_step {α:Type} {l:List α} {p:α→Prop} {k:Nat} (hk:k < l.length) (h:∀ j (h:j < l.length),j < k→p l[j]) (h2:p l[k]):∀ j (h:j < l.length),j < k + 1→p l[j]:=by
 intro j hj hjk
 rcases Nat.lt_succ_iff_lt_or_eq.1 hjk with h' | h'
 ·exact h j hj h'
 ·subst h'; exact h2
set_option maxRecDepth 100000 in
set_option maxHeartbeats 3200000 in
theorem far_long (a1 a2 a3 a4:Option Addr) (c1 c2 c3 c4:Nat) (S:Sp) (w:World) (h:10 < S.ds.length∨(S.ds.length≤10∧50 < S.rs.length)∨(S.ds.length≤10∧S.rs.length≤50∧100 < S.ss.length)∨(S.ds.length≤10∧S.rs.length≤50∧S.ss.length≤100∧40 < S.cs.length)) :
  Calls Tryz.prog 39 #[.agg #[.slice a1 S.ds.length c1,.slice a2 S.rs.length c2,.slice a3 S.ss.length c3,.slice a4 S.cs.length c4]] w (FarEnds S w):=by
 have HB:=Lib.hid (show Below w.heap.size w (w.alloc (.cells #[.slice a1 S.ds.length c1,.slice a2 S.rs.length c2,.slice a3 S.ss.length c3,.slice a4 S.cs.length c4] 27)) from (Below.refl _ w).alloc (Nat.le_refl _) _)
 rcases h with h | ⟨h1,h⟩ | ⟨h1,h2,h⟩ | ⟨h1,h2,h3,h⟩
 all_goals
  go_enter Tryz.func39,Tryz.ntmps39
  go_wp2
  go_ret
  exact farEnds_yes rfl HB.out
set_option maxRecDepth 100000 in
set_option maxHeartbeats 6400000 in
theorem far_short (a1 a2 a3 a4:Option Addr) (c1 c2 c3 c4:Nat) (S:Sp) (w:World) (f:Nat→Value) (hsp:SpRd w (.slice a1 S.ds.length c1) (.slice a2 S.rs.length c2) (.slice a3 S.ss.length c3) (.slice a4 S.cs.length c4) f S)
  (l1:S.ds.length≤10) (l2:S.rs.length≤50) (l3:S.ss.length≤100) (l4:S.cs.length≤40) :
  Calls Tryz.prog 39 #[.agg #[.slice a1 S.ds.length c1,.slice a2 S.rs.length c2,.slice a3 S.ss.length c3,.slice a4 S.cs.length c4]] w (FarEnds S w):=by
 have hb0:Below w.heap.size w (w.alloc (.cells #[.slice a1 S.ds.length c1,.slice a2 S.rs.length c2,.slice a3 S.ss.length c3,.slice a4 S.cs.length c4] 27)):=(Below.refl _ w).alloc (Nat.le_refl _) _
 have k0:Blk (w.alloc (.cells #[.slice a1 S.ds.length c1,.slice a2 S.rs.length c2,.slice a3 S.ss.length c3,.slice a4 S.cs.length c4] 27)) w.heap.size 27 #[.slice a1 S.ds.length c1,.slice a2 S.rs.length c2,.slice a3 S.ss.length c3,.slice a4 S.cs.length c4]:=Blk.new w _ _
 obtain ⟨W,hW⟩:∃ W,W=w.alloc (.cells #[.slice a1 S.ds.length c1,.slice a2 S.rs.length c2,.slice a3 S.ss.length c3,.slice a4 S.cs.length c4] 27):=⟨_,rfl⟩
 have HW:=Lib.hid hW
 rw [← hW] at hb0 k0
 have HB:=Lib.hid hb0
 have HSP:=Lib.hid (hsp.later hb0)
 have HK:=Lib.hid k0
 have g10:decide ((10:Int) < (S.ds.length:Int))=false:=by rw [decide_eq_false_iff_not]; omega
 have g50:decide ((50:Int) < (S.rs.length:Int))=false:=by rw [decide_eq_false_iff_not]; omega
 have g100:decide ((100:Int) < (S.ss.length:Int))=false:=by rw [decide_eq_false_iff_not]; omega
 have g40:decide ((40:Int) < (S.cs.length:Int))=false:=by rw [decide_eq_false_iff_not]; omega
 clear hW hb0 k0 hsp
 go_enter Tryz.func39,Tryz.ntmps39
 go_wp2
 rw [← HW.out]
 clear HW g10 g50 g100 g40
 obtain ⟨s0,s1,s2,s3⟩:=HK.out.four
 go_loop [3,4] (fun u x=>∃ (k:Nat) (b:Bool),k≤S.ds.length∧x = .int .i64 k∧u = .bool b∧RowKit.Hid (b=false→(∀ j (h:j < S.ds.length),j < k→S.ds[j].name.size≤100))) (fun _ x=>S.ds.length - (intOf x).toNat)
 case atStart=>exact ⟨0,false,by omega,rfl,rfl,Lib.hid (fun _=>fun j _ hj=>by omega)⟩
 obtain ⟨k,b0,hk,rfl,rfl,hN⟩:=hrel
 by_cases hlt:k < S.ds.length
 ·obtain ⟨bb,o,c,ev,hbl,r0,_⟩:=HSP.out.dAt k hlt
  cases ev
  have hk2:(k:Int) < (S.ds.length:Int):=by omega
  cases b0 with
  | true =>
   go_wp2
   go_round
   case rel=>exact ⟨k + 1,true,by omega,by go_num,rfl,Lib.hid (fun h=>by cases h)⟩
   case measure=>simp [intOf]; omega
  | false =>
   have HN:=Lib.hid (hN.out rfl)
   clear hN
   by_cases hsz:S.ds[k].name.size≤100
   ·have hd:decide ((100:Int) < (S.ds[k].name.size:Int))=false:=by rw [decide_eq_false_iff_not]; omega
    have HZ:=Lib.hid hsz
    clear hsz
    go_wp2
    go_round
    case rel=>exact ⟨k + 1,false,by omega,by go_num,rfl,Lib.hid (fun _=>upto_step (p:=fun x=>x.name.size≤100) hlt HN.out HZ.out)⟩
    case measure=>simp [intOf]; omega
   ·have hd:decide ((100:Int) < (S.ds[k].name.size:Int))=true:=by rw [decide_eq_true_iff]; omega
    clear hsz
    go_wp2
    go_round
    case rel=>exact ⟨k + 1,true,by omega,by go_num,rfl,Lib.hid (fun h=>by cases h)⟩
    case measure=>simp [intOf]; omega
 ·have hke:k=S.ds.length:=by omega
  have hk2:¬ ((k:Int) < (S.ds.length:Int)):=by omega
  have HN0:=hN
  rw [hke] at HN0
  clear hN
  go_wp2
  clear hke hk2 hlt hk
  go_loop [3,5] (fun u x=>∃ (k:Nat) (b:Bool),k≤S.rs.length∧x = .int .i64 k∧u = .bool b∧RowKit.Hid (b=false→(∀ j (h:j < S.ds.length),j < S.ds.length→S.ds[j].name.size≤100)∧(∀ j (h:j < S.rs.length),j < k→S.rs[j].name.size≤100))) (fun _ x=>S.rs.length - (intOf x).toNat)
  case atStart=>exact ⟨0,b0,by omega,rfl,rfl,Lib.hid (fun hb=>⟨HN0.out hb,fun j _ hj=>by omega⟩)⟩
  clear HN0
  obtain ⟨k,b1,hk,rfl,rfl,hN⟩:=hrel
  by_cases hlt:k < S.rs.length
  ·obtain ⟨bb,o,c,ev,hbl,r0,_⟩:=HSP.out.rAt k hlt
   cases ev
   have hk2:(k:Int) < (S.rs.length:Int):=by omega
   cases b1 with
   | true =>
    go_wp2
    go_round
    case rel=>exact ⟨k + 1,true,by omega,by go_num,rfl,Lib.hid (fun h=>by cases h)⟩
    case measure=>simp [intOf]; omega
   | false =>
    have HN:=Lib.hid (hN.out rfl)
    clear hN
    by_cases hsz:S.rs[k].name.size≤100
    ·have hd:decide ((100:Int) < (S.rs[k].name.size:Int))=false:=by rw [decide_eq_false_iff_not]; omega
     have HZ:=Lib.hid hsz
     clear hsz
     go_wp2
     go_round
     case rel=>exact ⟨k + 1,false,by omega,by go_num,rfl,Lib.hid (fun _=>⟨HN.out.1,upto_step (p:=fun x=>x.name.size≤100) hlt (HN.out.2) HZ.out⟩)⟩
     case measure=>simp [intOf]; omega
    ·have hd:decide ((100:Int) < (S.rs[k].name.size:Int))=true:=by rw [decide_eq_true_iff]; omega
     clear hsz
     go_wp2
     go_round
     case rel=>exact ⟨k + 1,true,by omega,by go_num,rfl,Lib.hid (fun h=>by cases h)⟩
     case measure=>simp [intOf]; omega
  ·have hke:k=S.rs.length:=by omega
   have hk2:¬ ((k:Int) < (S.rs.length:Int)):=by omega
   have HN1:=hN
   rw [hke] at HN1
   clear hN
   go_wp2
   clear hke hk2 hlt hk
   go_loop [3,6] (fun u x=>∃ (k:Nat) (b:Bool),k≤S.ss.length∧x = .int .i64 k∧u = .bool b∧RowKit.Hid (b=false→(∀ j (h:j < S.ds.length),j < S.ds.length→S.ds[j].name.size≤100)∧(∀ j (h:j < S.rs.length),j < S.rs.length→S.rs[j].name.size≤100)∧(∀ j (h:j < S.ss.length),j < k→S.ss[j].name.size≤100∧S.ss[j].parts.length≤20))) (fun _ x=>S.ss.length - (intOf x).toNat)
   case atStart=>exact ⟨0,b1,by omega,rfl,rfl,Lib.hid (fun hb=>⟨(HN1.out hb).1,(HN1.out hb).2,fun j _ hj=>by omega⟩)⟩
   clear HN1
   obtain ⟨k,b2,hk,rfl,rfl,hN⟩:=hrel
   by_cases hlt:k < S.ss.length
   ·obtain ⟨bb,o,c,ev,hbl,r0,_,_,_,r4⟩:=HSP.out.sAt k hlt
    obtain ⟨ap,cp,efp⟩:=(HSP.out.p k hlt).form
    rw [List.length_map] at efp
    rw [efp] at r4
    clear efp
    cases ev
    have hk2:(k:Int) < (S.ss.length:Int):=by omega
    cases b2 with
    | true =>
     go_wp2
     go_round
     case rel=>exact ⟨k + 1,true,by omega,by go_num,rfl,Lib.hid (fun h=>by cases h)⟩
     case measure=>simp [intOf]; omega
    | false =>
     have HN:=Lib.hid (hN.out rfl)
     clear hN
     by_cases hsz:S.ss[k].name.size≤100
     ·have hd:decide ((100:Int) < (S.ss[k].name.size:Int))=false:=by rw [decide_eq_false_iff_not]; omega
      have HZ:=Lib.hid hsz
      clear hsz
      by_cases hpz:S.ss[k].parts.length≤20
      ·have hd2:decide ((20:Int) < (S.ss[k].parts.length:Int))=false:=by rw [decide_eq_false_iff_not]; omega
       have HZ2:=Lib.hid hpz
       clear hpz
       go_wp2
       go_round
       case rel=>exact ⟨k + 1,false,by omega,by go_num,rfl,Lib.hid (fun _=>⟨HN.out.1,HN.out.2.1,upto_step (p:=fun x=>x.name.size≤100∧x.parts.length≤20) hlt (HN.out.2.2) ⟨HZ.out,HZ2.out⟩⟩)⟩
       case measure=>simp [intOf]; omega
      ·have hd2:decide ((20:Int) < (S.ss[k].parts.length:Int))=true:=by rw [decide_eq_true_iff]; omega
       clear hpz
       go_wp2
       go_round
       case rel=>exact ⟨k + 1,true,by omega,by go_num,rfl,Lib.hid (fun h=>by cases h)⟩
       case measure=>simp [intOf]; omega
     ·have hd:decide ((100:Int) < (S.ss[k].name.size:Int))=true:=by rw [decide_eq_true_iff]; omega
      clear hsz
      go_wp2
      go_round
      case rel=>exact ⟨k + 1,true,by omega,by go_num,rfl,Lib.hid (fun h=>by cases h)⟩
      case measure=>simp [intOf]; omega
   ·have hke:k=S.ss.length:=by omega
    have hk2:¬ ((k:Int) < (S.ss.length:Int)):=by omega
    have HN2:=hN
    rw [hke] at HN2
    clear hN
    go_wp2
    clear hke hk2 hlt hk
    go_loop [3,7] (fun u x=>∃ (k:Nat) (b:Bool),k≤S.cs.length∧x = .int .i64 k∧u = .bool b∧RowKit.Hid (b=false→(∀ j (h:j < S.ds.length),j < S.ds.length→S.ds[j].name.size≤100)∧(∀ j (h:j < S.rs.length),j < S.rs.length→S.rs[j].name.size≤100)∧(∀ j (h:j < S.ss.length),j < S.ss.length→S.ss[j].name.size≤100∧S.ss[j].parts.length≤20)∧(∀ j (h:j < S.cs.length),j < k→S.cs[j].name.size≤100))) (fun _ x=>S.cs.length - (intOf x).toNat)
    case atStart=>exact ⟨0,b2,by omega,rfl,rfl,Lib.hid (fun hb=>⟨(HN2.out hb).1,(HN2.out hb).2.1,(HN2.out hb).2.2,fun j _ hj=>by omega⟩)⟩
    clear HN2
    obtain ⟨k,b3,hk,rfl,rfl,hN⟩:=hrel
    by_cases hlt:k < S.cs.length
    ·obtain ⟨bb,o,c,ev,hbl,r0,_⟩:=HSP.out.cAt k hlt
     cases ev
     have hk2:(k:Int) < (S.cs.length:Int):=by omega
     cases b3 with
     | true =>
      go_wp2
      go_round
      case rel=>exact ⟨k + 1,true,by omega,by go_num,rfl,Lib.hid (fun h=>by cases h)⟩
      case measure=>simp [intOf]; omega
     | false =>
      have HN:=Lib.hid (hN.out rfl)
      clear hN
      by_cases hsz:S.cs[k].name.size≤100
      ·have hd:decide ((100:Int) < (S.cs[k].name.size:Int))=false:=by rw [decide_eq_false_iff_not]; omega
       have HZ:=Lib.hid hsz
       clear hsz
       go_wp2
       go_round
       case rel=>exact ⟨k + 1,false,by omega,by go_num,rfl,Lib.hid (fun _=>⟨HN.out.1,HN.out.2.1,HN.out.2.2.1,upto_step (p:=fun x=>x.name.size≤100) hlt (HN.out.2.2.2) HZ.out⟩)⟩
       case measure=>simp [intOf]; omega
      ·have hd:decide ((100:Int) < (S.cs[k].name.size:Int))=true:=by rw [decide_eq_true_iff]; omega
       clear hsz
       go_wp2
       go_round
       case rel=>exact ⟨k + 1,true,by omega,by go_num,rfl,Lib.hid (fun h=>by cases h)⟩
       case measure=>simp [intOf]; omega
    ·have hke:k=S.cs.length:=by omega
     have hk2:¬ ((k:Int) < (S.cs.length:Int)):=by omega
     have HN3:=hN
     rw [hke] at HN3
     clear hN
     go_wp2
     go_ret
     exact farEnds_of (b:=b3) rfl (fun h=>by
      obtain ⟨n1,n2,n3,n4⟩:=HN3.out h
      exact ⟨by omega,by omega,by omega,by omega,fun x hx=>by have:=all_of_get (p:=fun x=>x.name.size≤100) n1 x hx; omega,fun x hx=>by have:=all_of_get (p:=fun x=>x.name.size≤100) n2 x hx; omega,fun x hx=>by have:=(all_of_get (p:=fun x=>x.name.size≤100∧x.parts.length≤20) n3 x hx).1; omega,fun x hx=>by have:=all_of_get (p:=fun x=>x.name.size≤100) n4 x hx; omega,fun x hx=>by have:=(all_of_get (p:=fun x=>x.name.size≤100∧x.parts.length≤20) n3 x hx).2; omega⟩) HB.out
theorem far_any (v1 v2 v3 v4:Value) (S:Sp) (w:World) (f:Nat→Value) (hsp:SpRd w v1 v2 v3 v4 f S) :
  Calls Tryz.prog 39 #[.agg #[v1,v2,v3,v4]] w (FarEnds S w):=by
 obtain ⟨⟨a1,c1,rfl⟩,⟨a2,c2,rfl⟩,⟨a3,c3,rfl⟩,⟨a4,c4,rfl⟩⟩:=hsp.forms
 by_cases h:S.ds.length≤10∧S.rs.length≤50∧S.ss.length≤100∧S.cs.length≤40
 ·obtain ⟨l1,l2,l3,l4⟩:=h
  exact far_short a1 a2 a3 a4 c1 c2 c3 c4 S w f hsp l1 l2 l3 l4
 ·exact far_long a1 a2 a3 a4 c1 c2 c3 c4 S w (by omega)
end Go.Proofs.YthhfmppealmblaaGreatDoor
namespace Go.Proofs.YthhfmppealmblaaGreatDoor
open Go.RowKit
def keysP (ds:List Dv):Int:=ds.foldl (fun a d=>max a (d.hi - d.lo + 1)) 0
theorem keysP_take {ds:List Dv} {i:Nat} (h:i < ds.length):keysP (ds.take (i + 1))=max (keysP (ds.take i)) (ds[i].hi - ds[i].lo + 1):=by
 unfold keysP
 rw [List.take_succ_eq_append_getElem h,List.foldl_append]
 rfl
structure Small (S:Sp) (l:List Ev):Prop where
 ok:SpOk S
 len:l.length≤40∨20000 < l.length∧l.length≤20100
 few:(checkP S).2=0→(pipesP S).1 * keysP S.ds * (S.ss.length + 1)≤5000
def GreatE (S:Sp) (l:List Ev) (w:World) (e:Ending) (w':World):Prop:=∃ b,e = .returned (.bool b)∧(b=false→Small S l)∧Below w.heap.size w w'
theorem greatE_yes {S:Sp} {l:List Ev} {w w':World} (hb:Below w.heap.size w w'):GreatE S l w (.returned (.bool true)) w':=⟨true,rfl,(fun h=>by cases h),hb⟩
set_option maxRecDepth 100000 in
set_option maxHeartbeats 6400000 in
theorem great_any (v1 v2 v3 v4:Value) (S:Sp) (f:Nat→Value) (l:List Ev) (vl:Value) (w:World) (hsp:SpRd w v1 v2 v3 v4 f S) (hlv:ARd w vl 5 (l.map evC)) :
  Calls Tryz.prog 12 #[.agg #[v1,v2,v3,v4],vl] w (GreatE S l w):=by
 obtain ⟨al,cl,evl⟩:=hlv.evForm
 subst evl
 have hal:=(Below.refl _ w).alloc (Nat.le_refl w.heap.size) (.cells #[v1,v2,v3,v4] 27)
 have hk:=Blk.new w 27 #[v1,v2,v3,v4]
 have HFA:=Lib.hid (far_any v1 v2 v3 v4 S _ f (hsp.later hal))
 have HAL:=Lib.hid hal
 have HK:=Lib.hid hk
 have HSP:=Lib.hid hsp
 obtain ⟨s0,s1,s2,s3⟩:=hk.four
 clear hal hk hsp hlv
 go_enter Tryz.func12,Tryz.ntmps12
 go_wp2_with fail
 refine (HFA.out).mono ?_
 rintro e W ⟨b,rfl,hb0,hb⟩
 have HB1:=Lib.hid (below_step HAL.out hb)
 have HK1:=Lib.hid (HK.out.below hb)
 clear hb HFA HAL HK s0 s1 s2 s3
 cases b with
 | true =>
  go_wp2
  go_ret
  exact greatE_yes HB1.out
 | false =>
 have ok:=hb0 rfl
 have HOK:=Lib.hid ok
 have HRP:=Lib.hid (rpipes_any v1 v2 v3 v4 S ok W f (HSP.out.later HB1.out))
 clear hb0 ok
 by_cases g1:40 < l.length
 ·have q1:(40:Int) < (l.length:Int):=by omega
  have d1:decide ((40:Int) < (l.length:Int))=true:=decide_eq_true q1
  by_cases g2:l.length≤20000
  ·have q2:(l.length:Int)≤20000:=by omega
   go_wp2
   go_ret
   exact greatE_yes HB1.out
  have d2:decide ((l.length:Int)≤20000)=false:=decide_eq_false (by omega)
  by_cases g3:20100 < l.length
  ·have q3:(20100:Int) < (l.length:Int):=by omega
   go_wp2
   go_ret
   exact greatE_yes HB1.out
  have d3:decide ((20100:Int) < (l.length:Int))=false:=decide_eq_false (by omega)
  have HLE:RowKit.Hid (l.length≤40∨20000 < l.length∧l.length≤20100):=Lib.hid (.inr ⟨by omega,by omega⟩)
  clear q1 g1 g2 g3
  obtain ⟨u0,u1,u2,u3⟩:=HK1.out.four
  go_wp2_with fail
  refine (HRP.out).mono ?_
  rintro e W2 ⟨rfl,hb2⟩
  have HB2:=Lib.hid (below_step HB1.out hb2)
  have HK2:=Lib.hid (HK1.out.below hb2)
  clear hb2 HRP HK1 HB1 u0 u1 u2 u3
  by_cases hc:(checkP S).2=0
  case neg =>
   have HN:=Lib.hid (show GreatE S l w (.returned (.bool false)) W2 from ⟨false,rfl,fun _=>⟨HOK.out,HLE.out,fun h=>absurd h hc⟩,HB2.out⟩)
   obtain ⟨⟨pn,pe⟩,hpe⟩:∃ q,pipesP S=q:=⟨_,rfl⟩
   have hpe2:pe≠0:=by
    have:=congrArg Prod.snd hpe
    unfold pipesP at this
    rw [if_neg hc] at this
    simp only at this
    rw [← this]
    exact hc
   rw [hpe]
   have q9:(pe == 0)=false:=by simpa using hpe2
   clear hc hpe hpe2
   go_wp2
   go_ret
   exact HN.out
  have hsg:=spGood hc
  have hpe:pipesP S=(cntP S.rs,0):=if_pos hc
  obtain ⟨n0,n1⟩:=cntP_bound hsg.r
  have n2:=hsg.rs
  have n3:=hsg.ss
  have n4:=hsg.ds
  rw [hpe]
  obtain ⟨pn,hpn⟩:∃ pn,cntP S.rs=pn:=⟨_,rfl⟩
  rw [hpn] at hpe n0 n1 ⊢
  have HPE:=Lib.hid hpe
  have HSG:=Lib.hid hsg
  obtain ⟨⟨a1,c1,e1⟩,_,⟨a3,c3,e3⟩,_⟩:=HSP.out.forms
  subst e1 e3
  have HK0:RowKit.Hid (keysP (S.ds.take 0)=0):=Lib.hid rfl
  have HW0:=Lib.hid (Below.refl W2.heap.size W2)
  clear hc hsg hpe hpn
  go_wp2
  go_loopw [7,8] (fun k x wr=>∃ (i:Nat) (kk:Int),i≤S.ds.length∧x = .int .i64 i∧k = .int .i64 kk∧0≤kk∧kk≤61∧RowKit.Hid (keysP (S.ds.take i)=kk)∧RowKit.Hid (Below W2.heap.size W2 wr)) (fun _ x _=>S.ds.length - (intOf x).toNat)
  case atStart=>exact ⟨0,0,Nat.zero_le _,rfl,rfl,Int.le_refl _,by omega,HK0,HW0⟩
  clear HK0 HW0
  obtain ⟨i,kk,hi,rfl,rfl,hk0,hk1,hkk,hW⟩:=hrel
  have HKR:=Lib.hid (HK2.out.below hW.out)
  obtain ⟨t0,t1,t2,t3⟩:=HKR.out.four
  by_cases hil:i < S.ds.length
  ·have hi2:(i:Int) < (S.ds.length:Int):=by omega
   obtain ⟨b,o,c',ev,hbl,r0,r1,r2⟩:=(HSP.out.later (below_step HB2.out hW.out)).dAt i hil
   cases ev
   have hdk:=dv_ok (HSG.out.d _ (List.getElem_mem hil))
   have HKT:=Lib.hid (keysP_take hil)
   obtain ⟨lo,hlo⟩:∃ x,S.ds[i].lo=x:=⟨_,rfl⟩
   obtain ⟨hi',hhi⟩:∃ x,S.ds[i].hi=x:=⟨_,rfl⟩
   rw [hlo] at r1 hdk HKT
   rw [hhi] at r2 hdk HKT
   rw [hkk.out] at HKT
   have e4:IntKind.i64.wrap (hi' - lo)=hi' - lo:=IntWalk.i64_in _ (by omega)
   have e5:IntKind.i64.wrap (hi' - lo + 1)=hi' - lo + 1:=IntWalk.i64_in _ (by omega)
   have hdr:Below wr.heap.size wr wr.drew:=(Below.refl _ _).drew
   have HWD:=Lib.hid (below_step hW.out hdr)
   clear hlo hhi hkk hbl hdr r0
   have hmx:max kk (hi' - lo + 1)=if kk≤hi' - lo + 1 then hi' - lo + 1 else kk:=by
    rw [Int.max_def]
   have HMX:=Lib.hid hmx
   clear hmx
   go_upto_region 10 with fail
   go_region
   have hm0:0≤max kk (hi' - lo + 1):=Int.le_trans hk0 (Int.le_max_left _ _)
   have hm1:max kk (hi' - lo + 1)≤61:=Int.max_le.2 ⟨hk1,by omega⟩
   go_wp2
   go_roundw
   case rel=>exact ⟨i + 1,max kk (hi' - lo + 1),by omega,by go_num,rfl,hm0,hm1,HKT,HWD⟩
   case measure=>simp [intOf]; omega
  ·have hi2:¬ (i:Int) < (S.ds.length:Int):=by omega
   have hie:i=S.ds.length:=by omega
   have hkk2:=hkk.out
   rw [hie,List.take_length] at hkk2
   obtain ⟨m,hm⟩:∃ m:Int,(S.ss.length:Int) + 1=m:=⟨_,rfl⟩
   have hz0:0≤pn * kk:=Int.mul_nonneg n0 hk0
   have hz1:pn * kk≤3880 * 61:=Int.mul_le_mul (by omega) hk1 hk0 (by omega)
   obtain ⟨z,hz⟩:∃ z,pn * kk=z:=⟨_,rfl⟩
   rw [hz] at hz0 hz1
   have hy0:0≤z * m:=Int.mul_nonneg hz0 (by omega)
   have hy1:z * m≤3880 * 61 * 81:=Int.mul_le_mul hz1 (by omega) (by omega) (by omega)
   obtain ⟨y,hy⟩:∃ y,z * m=y:=⟨_,rfl⟩
   rw [hy] at hy0 hy1
   have e4:IntKind.i64.wrap (pn * kk)=z:=by rw [hz]; exact IntWalk.i64_in _ (by omega)
   have e5:IntKind.i64.wrap ((S.ss.length:Int) + 1)=m:=by rw [hm]; exact IntWalk.i64_in _ (by omega)
   have e6:IntKind.i64.wrap (z * m)=y:=by rw [hy]; exact IntWalk.i64_in _ (by omega)
   have HFW:=Lib.hid (show ¬ 5000 < y→(checkP S).2=0→(pipesP S).1 * keysP S.ds * (S.ss.length + 1)≤5000 from fun h _=>by rw [HPE.out,hkk2]; simp only; rw [hz,hm,hy]; omega)
   have HB9:=Lib.hid (below_step HB2.out hW.out)
   clear hz hm hy hie hkk2 hkk
   by_cases h5:5000 < y
   ·go_wp2
    go_ret
    exact ⟨true,by simp,(fun h=>by cases h),HB9.out⟩
   ·have d5:decide (5000 < y)=false:=decide_eq_false h5
    go_wp2
    go_ret
    exact ⟨false,by simp,(fun _=>⟨HOK.out,HLE.out,HFW.out h5⟩),HB9.out⟩
 ·have d1:decide ((40:Int) < (l.length:Int))=false:=decide_eq_false (by omega)
  have d3:decide ((20100:Int) < (l.length:Int))=false:=decide_eq_false (by omega)
  have HLE:RowKit.Hid (l.length≤40∨20000 < l.length∧l.length≤20100):=Lib.hid (.inl (by omega))
  clear g1
  obtain ⟨u0,u1,u2,u3⟩:=HK1.out.four
  go_wp2_with fail
  refine (HRP.out).mono ?_
  rintro e W2 ⟨rfl,hb2⟩
  have HB2:=Lib.hid (below_step HB1.out hb2)
  have HK2:=Lib.hid (HK1.out.below hb2)
  clear hb2 HRP HK1 HB1 u0 u1 u2 u3
  by_cases hc:(checkP S).2=0
  case neg =>
   have HN:=Lib.hid (show GreatE S l w (.returned (.bool false)) W2 from ⟨false,rfl,fun _=>⟨HOK.out,HLE.out,fun h=>absurd h hc⟩,HB2.out⟩)
   obtain ⟨⟨pn,pe⟩,hpe⟩:∃ q,pipesP S=q:=⟨_,rfl⟩
   have hpe2:pe≠0:=by
    have:=congrArg Prod.snd hpe
    unfold pipesP at this
    rw [if_neg hc] at this
    simp only at this
    rw [← this]
    exact hc
   rw [hpe]
   have q9:(pe == 0)=false:=by simpa using hpe2
   clear hc hpe hpe2
   go_wp2
   go_ret
   exact HN.out
  have hsg:=spGood hc
  have hpe:pipesP S=(cntP S.rs,0):=if_pos hc
  obtain ⟨n0,n1⟩:=cntP_bound hsg.r
  have n2:=hsg.rs
  have n3:=hsg.ss
  have n4:=hsg.ds
  rw [hpe]
  obtain ⟨pn,hpn⟩:∃ pn,cntP S.rs=pn:=⟨_,rfl⟩
  rw [hpn] at hpe n0 n1 ⊢
  have HPE:=Lib.hid hpe
  have HSG:=Lib.hid hsg
  obtain ⟨⟨a1,c1,e1⟩,_,⟨a3,c3,e3⟩,_⟩:=HSP.out.forms
  subst e1 e3
  have HK0:RowKit.Hid (keysP (S.ds.take 0)=0):=Lib.hid rfl
  have HW0:=Lib.hid (Below.refl W2.heap.size W2)
  clear hc hsg hpe hpn
  go_wp2
  go_loopw [7,8] (fun k x wr=>∃ (i:Nat) (kk:Int),i≤S.ds.length∧x = .int .i64 i∧k = .int .i64 kk∧0≤kk∧kk≤61∧RowKit.Hid (keysP (S.ds.take i)=kk)∧RowKit.Hid (Below W2.heap.size W2 wr)) (fun _ x _=>S.ds.length - (intOf x).toNat)
  case atStart=>exact ⟨0,0,Nat.zero_le _,rfl,rfl,Int.le_refl _,by omega,HK0,HW0⟩
  clear HK0 HW0
  obtain ⟨i,kk,hi,rfl,rfl,hk0,hk1,hkk,hW⟩:=hrel
  have HKR:=Lib.hid (HK2.out.below hW.out)
  obtain ⟨t0,t1,t2,t3⟩:=HKR.out.four
  by_cases hil:i < S.ds.length
  ·have hi2:(i:Int) < (S.ds.length:Int):=by omega
   obtain ⟨b,o,c',ev,hbl,r0,r1,r2⟩:=(HSP.out.later (below_step HB2.out hW.out)).dAt i hil
   cases ev
   have hdk:=dv_ok (HSG.out.d _ (List.getElem_mem hil))
   have HKT:=Lib.hid (keysP_take hil)
   obtain ⟨lo,hlo⟩:∃ x,S.ds[i].lo=x:=⟨_,rfl⟩
   obtain ⟨hi',hhi⟩:∃ x,S.ds[i].hi=x:=⟨_,rfl⟩
   rw [hlo] at r1 hdk HKT
   rw [hhi] at r2 hdk HKT
   rw [hkk.out] at HKT
   have e4:IntKind.i64.wrap (hi' - lo)=hi' - lo:=IntWalk.i64_in _ (by omega)
   have e5:IntKind.i64.wrap (hi' - lo + 1)=hi' - lo + 1:=IntWalk.i64_in _ (by omega)
   have hdr:Below wr.heap.size wr wr.drew:=(Below.refl _ _).drew
   have HWD:=Lib.hid (below_step hW.out hdr)
   clear hlo hhi hkk hbl hdr r0
   have hmx:max kk (hi' - lo + 1)=if kk≤hi' - lo + 1 then hi' - lo + 1 else kk:=by
    rw [Int.max_def]
   have HMX:=Lib.hid hmx
   clear hmx
   go_upto_region 10 with fail
   go_region
   have hm0:0≤max kk (hi' - lo + 1):=Int.le_trans hk0 (Int.le_max_left _ _)
   have hm1:max kk (hi' - lo + 1)≤61:=Int.max_le.2 ⟨hk1,by omega⟩
   go_wp2
   go_roundw
   case rel=>exact ⟨i + 1,max kk (hi' - lo + 1),by omega,by go_num,rfl,hm0,hm1,HKT,HWD⟩
   case measure=>simp [intOf]; omega
  ·have hi2:¬ (i:Int) < (S.ds.length:Int):=by omega
   have hie:i=S.ds.length:=by omega
   have hkk2:=hkk.out
   rw [hie,List.take_length] at hkk2
   obtain ⟨m,hm⟩:∃ m:Int,(S.ss.length:Int) + 1=m:=⟨_,rfl⟩
   have hz0:0≤pn * kk:=Int.mul_nonneg n0 hk0
   have hz1:pn * kk≤3880 * 61:=Int.mul_le_mul (by omega) hk1 hk0 (by omega)
   obtain ⟨z,hz⟩:∃ z,pn * kk=z:=⟨_,rfl⟩
   rw [hz] at hz0 hz1
   have hy0:0≤z * m:=Int.mul_nonneg hz0 (by omega)
   have hy1:z * m≤3880 * 61 * 81:=Int.mul_le_mul hz1 (by omega) (by omega) (by omega)
   obtain ⟨y,hy⟩:∃ y,z * m=y:=⟨_,rfl⟩
   rw [hy] at hy0 hy1
   have e4:IntKind.i64.wrap (pn * kk)=z:=by rw [hz]; exact IntWalk.i64_in _ (by omega)
   have e5:IntKind.i64.wrap ((S.ss.length:Int) + 1)=m:=by rw [hm]; exact IntWalk.i64_in _ (by omega)
   have e6:IntKind.i64.wrap (z * m)=y:=by rw [hy]; exact IntWalk.i64_in _ (by omega)
   have HFW:=Lib.hid (show ¬ 5000 < y→(checkP S).2=0→(pipesP S).1 * keysP S.ds * (S.ss.length + 1)≤5000 from fun h _=>by rw [HPE.out,hkk2]; simp only; rw [hz,hm,hy]; omega)
   have HB9:=Lib.hid (below_step HB2.out hW.out)
   clear hz hm hy hie hkk2 hkk
   by_cases h5:5000 < y
   ·go_wp2
    go_ret
    exact ⟨true,by simp,(fun h=>by cases h),HB9.out⟩
   ·have d5:decide (5000 < y)=false:=decide_eq_false h5
    go_wp2
    go_ret
    exact ⟨false,by simp,(fun _=>⟨HOK.out,HLE.out,HFW.out h5⟩),HB9.out⟩
end Go.Proofs.YthhfmppealmblaaGreatDoor
namespace Go.Proofs.YthhfmppealmblaaGreatDoor
theorem len_sub {α:Type} [DecidableEq α]:∀ {l m:List α},l.Nodup→(∀ x∈l,x∈m)→l.length≤m.length
 | [],_,_,_=>Nat.zero_le _
 | a :: l,m,h,hs=>by
  have h1:=List.nodup_cons.1 h
  have ha:=hs a (by simp)
  have ih:=len_sub (l:=l) (m:=m.erase a) h1.2 fun x hx=>(List.mem_erase_of_ne (fun e=>h1.1 (by rw [← e]; exact hx))).2 (hs x (by simp [hx]))
  rw [List.length_erase_of_mem ha] at ih
  have:=List.length_pos_of_mem ha
  rw [List.length_cons]
  omega
theorem nodup_asc {l:List Int} (h:l.Pairwise (· < ·)):l.Nodup:=h.imp fun {a b} q e=>by omega
theorem nodup_pp {l:List Pp} (h:l.Pairwise ppLt):l.Nodup:=h.imp fun {a b} q e=>by subst e; exact ppLt_irrefl _ q
def atT (kd:Int→Int):Int→List Int→Int→Int
 | was,[],_=>was
 | was,u :: ts,t=>if u≤t then atT kd (kd u) ts t else was
theorem atT_late {kd:Int→Int} {was:Int} {ts:List Int} {t:Int} (h:∀ u∈ts,t < u):atT kd was ts t=was:=by
 cases ts with
 | nil=>rfl
 | cons u ts =>
  have:=h u (by simp)
  rw [atT,if_neg (by omega)]
def cv1 (t:Int) (x:Int × Int × Int):Int:=if x.2.1≤t∧(x.2.2 < 0∨t < x.2.2) then x.1 else 0
def cvs (t:Int):List (Int × Int × Int)→Int
 | []=>0
 | x :: r=>cv1 t x + cvs t r
theorem nxt_is (kd:Int→Int) (k:Int):∀ (ts:List Int),nxt kd k ts = -1∨nxt kd k ts∈ts
 | [] => .inl rfl
 | t :: ts=>by
  rw [nxt]
  split
  ·rcases nxt_is kd k ts with h | h
   ·exact .inl h
   ·exact .inr (List.mem_cons_of_mem _ h)
  ·exact .inr (by simp)
theorem cvs_late {kd:Int→Int} {t:Int}:∀ {was:Int} {ts:List Int},(∀ u∈ts,t < u)→cvs t (flt kd was ts)=0
 | _,[],_=>rfl
 | was,u :: ts,h=>by
  have h2:∀ v∈ts,t < v:=fun v hv=>h v (by simp [hv])
  have h1:=h u (by simp)
  rw [flt]
  split
  ·exact cvs_late h2
  ·split
   ·exact cvs_late h2
   ·rw [cvs,cvs_late h2,cv1,if_neg (by simp only; omega)]
    rfl
theorem cvs_flt {kd:Int→Int} {t:Int}:∀ {was:Int} {ts:List Int},ts.Pairwise (· < ·)→(∀ u∈ts,0≤u)→(if nxt kd was ts < 0∨t < nxt kd was ts then was else 0) + cvs t (flt kd was ts)=atT kd was ts t
 | was,[],_,_=>by
  rw [nxt,flt,cvs,atT,if_pos (.inl (by omega))]
  omega
 | was,u :: ts,ha,h0=>by
  have ha1:=List.pairwise_cons.1 ha
  have h01:=h0 u (by simp)
  have h02:∀ v∈ts,0≤v:=fun v hv=>h0 v (by simp [hv])
  have hlate:¬ u≤t→∀ v∈ts,t < v:=fun h v hv=>by have:=ha1.1 v hv; omega
  rw [nxt,flt,atT]
  by_cases e:kd u=was
  ·rw [if_pos e,if_pos e,cvs_flt ha1.2 h02,e]
   by_cases q:u≤t
   ·rw [if_pos q]
   ·rw [if_neg q,atT_late (hlate q)]
  ·rw [if_neg e,if_neg e]
   by_cases q:u≤t
   ·rw [if_neg (by omega),if_pos q]
    by_cases z:kd u=0
    ·have ih:=cvs_flt (kd:=kd) (t:=t) (was:=0) ha1.2 h02
     rw [if_pos z,z,← ih]
     congr 1
     split <;> rfl
    ·have ih:=cvs_flt (kd:=kd) (t:=t) (was:=kd u) ha1.2 h02
     rw [if_neg z,cvs,← ih,Int.zero_add,cv1]
     congr 1
     by_cases r:nxt kd (kd u) ts < 0∨t < nxt kd (kd u) ts
     ·rw [if_pos ⟨q,r⟩,if_pos r]
     ·rw [if_neg (fun h=>r h.2),if_neg r]
   ·rw [if_pos (.inr (by omega)),if_neg q]
    by_cases z:kd u=0
    ·rw [if_pos z,cvs_late (hlate q),Int.add_zero]
    ·rw [if_neg z,cvs,cvs_late (hlate q),cv1,if_neg (fun h=>q h.1)]
     omega
theorem atT_is {kd:Int→Int} {T:List Int} (D:∀ t u,(∀ x∈T,x≤t ↔ x≤u)→kd t=kd u) {t:Int}:∀ {ts:List Int} {lo:Int},ts.Pairwise (· < ·)→(∀ u∈ts,lo < u)→(∀ x∈T,x≤lo∨x∈ts)→lo≤t→atT kd (kd lo) ts t=kd t
 | [],lo,_,_,h,hl=>D lo t fun x hx=>by
   rcases h x hx with h | h
   ·omega
   ·cases h
 | u :: ts,lo,ha,h1,h,hl=>by
  have ha1:=List.pairwise_cons.1 ha
  rw [atT]
  by_cases q:u≤t
  ·rw [if_pos q]
   refine atT_is D ha1.2 ha1.1 (fun x hx=>?_) q
   rcases h x hx with k | k
   ·have:=h1 u (by simp)
    exact .inl (by omega)
   ·rcases List.mem_cons.1 k with rfl | k
    ·exact .inl (Int.le_refl _)
    ·exact .inr k
  ·rw [if_neg q]
   refine D lo t fun x hx=>?_
   rcases h x hx with k | k
   ·omega
   ·have h2:=h1 x k
    rcases List.mem_cons.1 k with rfl | k
    ·omega
    ·have:=ha1.1 x k
     omega
theorem calm_is {kd:Int→Int} {T:List Int} (D:∀ t u,(∀ x∈T,x≤t ↔ x≤u)→kd t=kd u):∀ {ts:List Int} {lo:Int},ts.Pairwise (· < ·)→(∀ u∈ts,lo < u)→(∀ x∈T,x≤lo∨x∈ts)→Calm kd (fun t=>decide (t∈T)) (kd lo) ts
 | [],_,_,_,_=>trivial
 | u :: ts,lo,ha,h1,h=>by
  have ha1:=List.pairwise_cons.1 ha
  have h1u:=h1 u (by simp)
  refine ⟨fun hq=>?_,?_⟩
  ·have hq2:u ∉ T:=of_decide_eq_false hq
   refine (D lo u fun x hx=>?_).symm
   rcases h x hx with k | k
   ·omega
   ·have h2:=h1 x k
    rcases List.mem_cons.1 k with rfl | k
    ·exact absurd hx hq2
    ·have:=ha1.1 x k
     omega
  ·refine calm_is D ha1.2 ha1.1 fun x hx=>?_
   rcases h x hx with k | k
   ·exact .inl (by omega)
   ·rcases List.mem_cons.1 k with rfl | k
    ·exact .inl (Int.le_refl _)
    ·exact .inr k
def cov1 (p:Pp) (t:Int) (f:Fa):Int:=if f.2.1=p∧f.2.2.1≤t∧(f.2.2.2 < 0∨t < f.2.2.2) then f.1 else 0
def covF (p:Pp) (t:Int):List Fa→Int
 | []=>0
 | f :: r=>cov1 p t f + covF p t r
theorem covF_append (p:Pp) (t:Int) (a b:List Fa):covF p t (a ++ b)=covF p t a + covF p t b:=by
 induction a with
 | nil=>rw [List.nil_append,covF]; omega
 | cons x a ih=>rw [List.cons_append,covF,covF,ih]; omega
theorem covF_perm {p:Pp} {t:Int} {a b:List Fa} (h:a.Perm b):covF p t a=covF p t b:=by
 induction h with
 | nil=>rfl
 | cons x _ ih=>rw [covF,covF,ih]
 | swap x y l=>rw [covF,covF,covF,covF]; omega
 | trans _ _ h1 h2=>rw [h1,h2]
theorem covF_take {p:Pp} {t:Int} {l:List Fa} {j:Nat} (h:j < l.length):covF p t (l.take (j + 1))=covF p t (l.take j) + cov1 p t l[j]:=by
 rw [List.take_succ_eq_append_getElem h,covF_append,covF,covF]
 omega
theorem covF_mk (p:Pp) (t:Int) (l:List (Int × Int × Int)):covF p t (l.map fun x=>(x.1,p,x.2.1,x.2.2))=cvs t l:=by
 induction l with
 | nil=>rfl
 | cons x l ih =>
  rw [List.map_cons,covF,cvs,ih]
  congr 1
  unfold cov1 cv1
  simp only [true_and]
theorem covF_other {p:Pp} {t:Int} {l:List Fa} (h:∀ f∈l,f.2.1≠p):covF p t l=0:=by
 induction l with
 | nil=>rfl
 | cons x l ih =>
  rw [covF,ih fun f hf=>h f (by simp [hf]),cov1,if_neg (fun q=>h x (by simp) q.1)]
  rfl
theorem covF_faAll {kd:Pp→Int→Int} {ts:List Int} {p:Pp} {t:Int}:∀ {all:List Pp},all.Pairwise ppLt→p∈all→covF p t (faAll kd all ts)=cvs t (flt (kd p) 0 ts)
 | [],_,h=>by cases h
 | q :: all,ha,h=>by
  have ha1:=List.pairwise_cons.1 ha
  unfold faAll
  rw [List.flatMap_cons,covF_append]
  by_cases e:q=p
  ·subst e
   rw [covF_mk,covF_other,Int.add_zero]
   intro f hf e
   obtain ⟨r,hr,hf⟩:=List.mem_flatMap.1 hf
   obtain ⟨x,_,rfl⟩:=List.mem_map.1 hf
   simp only at e
   subst e
   exact ppLt_irrefl _ (ha1.1 _ hr)
  ·rw [covF_other (fun f hf k=>?_),Int.zero_add]
   ·rcases List.mem_cons.1 h with h | h
    ·exact absurd h.symm e
    ·exact covF_faAll ha1.2 h
   ·obtain ⟨x,_,rfl⟩:=List.mem_map.1 hf
    exact e k
theorem upN_dep {l:List Ev} {t u:Int} (h:∀ x∈l,x.1≤t ↔ x.1≤u):upN l t=upN l u:=by
 induction l with
 | nil=>rfl
 | cons x l ih =>
  rw [upN_cons,upN_cons,ih fun y hy=>h y (by simp [hy])]
  have:=h x (by simp)
  by_cases q:x.1≤t
  ·rw [if_pos q,if_pos (this.1 q)]
  ·rw [if_neg q,if_neg (fun k=>q (this.2 k))]
theorem upF_dep {l:List Ev} {t u:Int} (h:∀ x∈l,x.1≤t ↔ x.1≤u):upF l t=upF l u:=by unfold upF; rw [upN_dep h]
theorem clB_dep {c:Cl} {p:Pp} {t u:Int} (h:c.2.1≤t ↔ c.2.1≤u) (h2:0≤c.2.2→(c.2.2≤t ↔ c.2.2≤u)):clB c p t=clB c p u:=by
 unfold clB
 congr 1
 ·congr 1
  exact decide_eq_decide.2 h
 ·by_cases q:c.2.2 < 0
  ·rw [decide_eq_true q,Bool.true_or,Bool.true_or]
  ·have:=h2 (by omega)
   congr 1
   exact decide_eq_decide.2 (by omega)
theorem any_congr {α:Type} {l:List α} {a b:α→Bool} (h:∀ x∈l,a x=b x):l.any a=l.any b:=by
 induction l with
 | nil=>rfl
 | cons x l ih=>rw [List.any_cons,List.any_cons,h x (by simp),ih fun y hy=>h y (by simp [hy])]
theorem kdCl_dep {B:(Th→Int)→Pp→Bool} {l:List Ev} {cls:List Cl} {p:Pp} {t u:Int} (h:∀ x∈ticksC (ticksL [] l) cls,x≤t ↔ x≤u):kdCl B l cls p t=kdCl B l cls p u:=by
 unfold kdCl
 rw [upF_dep (t:=t) (u:=u) fun x hx=>h _ (mem_ticksC.2 (.inl (mem_ticksL.2 (.inr ⟨x,hx,rfl⟩)))),any_congr (b:=fun c=>clB c p u) fun c hc=>clB_dep (h _ (mem_ticksC.2 (.inr ⟨c,hc,.inl rfl⟩))) fun h0=>h _ (mem_ticksC.2 (.inr ⟨c,hc,.inr ⟨h0,rfl⟩⟩))]
theorem upN_before {l:List Ev} {t:Int} (h:∀ x∈l,t < x.1):upN l t=0:=by
 cases l with
 | nil=>rfl
 | cons x l =>
  have:=h x (by simp)
  rw [upN_cons,if_neg (by omega)]
theorem kdCl_before {S:Sp} {B:(Th→Int)→Pp→Bool} (hB:SndIs S B) {l:List Ev} {cls:List Cl} {p:Pp} {t:Int} (h:∀ x∈ticksC (ticksL [] l) cls,t < x):kdCl B l cls p t=0:=by
 unfold kdCl upF
 rw [upN_before (t:=t) fun x hx=>h _ (mem_ticksC.2 (.inl (mem_ticksL.2 (.inr ⟨x,hx,rfl⟩)))),show onV (l.take 0)=(fun _=>0) from rfl,snd_zero hB]
 have:(cls.any fun c=>clB c p t)=false:=by
  rw [List.any_eq_false]
  intro c hc
  have:=h _ (mem_ticksC.2 (.inr ⟨c,hc,.inl rfl⟩))
  unfold clB
  rw [decide_eq_false (show ¬ c.2.1≤t by omega),Bool.and_false,Bool.false_and]
  exact Bool.false_ne_true
 rw [this]
 rfl
theorem nonneg_ticks {S:Sp} {l:List Ev} {cls:List Cl} (hE:clsE S l cls=0):∀ u∈ticksC (ticksL [] l) cls,0≤u:=by
 obtain ⟨hR,_,hc⟩:=clsE_ok hE
 intro u hu
 rcases mem_ticksC.1 hu with h | ⟨c,h1,h | h⟩
 ·rcases mem_ticksL.1 h with h | ⟨x,hx,rfl⟩
  ·cases h
  ·exact (hR.nonneg hx).1
 ·have:=clE_to (hc c h1)
  omega
 ·omega
theorem cov_is {S:Sp} {B:(Th→Int)→Pp→Bool} (hB:SndIs S B) {l:List Ev} {cls:List Cl} {m:List Fa} (h:ClP S B l cls m 0) {p:Pp} (hp:p∈allFrom 0 S.rs) (t:Int):covF p t m=kdCl B l cls p t:=by
 rcases h with ⟨h0,_,h1⟩ | ⟨hE,⟨_,_,h⟩ | ⟨_,hm,_,_⟩⟩
 ·exact absurd h1.symm h0
 ·cases h
 ·have hasc:(ticksC (ticksL [] l) cls).Pairwise (· < ·):=asc_ticksC (asc_ticksL List.Pairwise.nil)
  have h0:=nonneg_ticks hE
  rw [covF_perm hm]
  unfold faCl
  rw [covF_faAll (asc_allFrom _ _) hp]
  have hlo:∀ u∈ticksC (ticksL [] l) cls,min (-1) t < u:=fun u hu=>by have:=h0 u hu; omega
  have k0:kdCl B l cls p (min (-1) t)=0:=kdCl_before hB hlo
  have h1:=cvs_flt (kd:=kdCl B l cls p) (t:=t) (was:=0) hasc h0
  have h2:=atT_is (kd:=kdCl B l cls p) (T:=ticksC (ticksL [] l) cls) (fun t u h=>kdCl_dep h) (t:=t) (lo:=min (-1) t) hasc hlo (fun x hx => .inr hx) (by omega)
  rw [k0] at h2
  rw [← h2,← h1]
  split <;> omega
theorem kdRef_small (a b:Bool):0≤kdRef a b∧kdRef a b≤2:=by cases a <;> cases b <;> decide
theorem fa_kind {S:Sp} {B:(Th→Int)→Pp→Bool} {l:List Ev} {cls:List Cl} {m:List Fa} {c:Int} (h:ClP S B l cls m c):∀ f∈m,0≤f.1∧f.1≤2:=by
 intro f hf
 rcases h with ⟨_,rfl,_⟩ | ⟨_,⟨_,rfl,_⟩ | ⟨_,hm,_,_⟩⟩
 ·cases hf
 ·cases hf
 ·obtain ⟨p,_,h⟩:=List.mem_flatMap.1 (hm.mem_iff.1 hf)
  obtain ⟨x,hx,rfl⟩:=List.mem_map.1 h
  have:=(flt_mem hx).2.1
  simp only
  rw [this]
  exact kdRef_small _ _
theorem cov1_small {p:Pp} {t:Int} {f:Fa} (h:0≤f.1∧f.1≤2):0≤cov1 p t f∧cov1 p t f≤2:=by
 unfold cov1
 split <;> omega
theorem covF_small {p:Pp} {t:Int}:∀ {m:List Fa},(∀ f∈m,0≤f.1∧f.1≤2)→0≤covF p t m∧covF p t m≤2 * m.length
 | [],_=>by simp [covF]
 | f :: m,h=>by
  have h1:=cov1_small (p:=p) (t:=t) (h f (by simp))
  have h2:=covF_small (p:=p) (t:=t) (m:=m) fun g hg=>h g (by simp [hg])
  rw [covF,List.length_cons]
  push_cast
  omega
theorem flt_half {kd:Int→Int} (h:∀ t,kd t=0∨kd t=1):∀ (ts:List Int),2 * (flt kd 0 ts).length≤ts.length + 1∧2 * (flt kd 1 ts).length≤ts.length
 | []=>by simp [flt]
 | t :: ts=>by
  obtain ⟨h1,h2⟩:=flt_half h ts
  simp only [List.length_cons]
  rcases h t with e | e
  ·rw [flt,if_pos e,flt,e,if_neg (by omega),if_pos rfl]
   omega
  ·constructor
   ·rw [flt,e,if_neg (by omega),if_neg (by omega),List.length_cons]
    omega
   ·rw [flt,if_pos e]
    omega
theorem flt_zero {kd:Int→Int} (h:∀ t,kd t=0) (ts:List Int):flt kd 0 ts=[]:=by
 induction ts with
 | nil=>rfl
 | cons t ts ih=>rw [flt,if_pos (h t),ih]
theorem sum_len {α β:Type} {g:α→List β} {qa qb:α→Bool} {a b:Nat}:∀ {l:List α},(∀ x∈l,(g x).length≤(if qa x then a else 0) + (if qb x then b else 0))→(l.flatMap g).length≤a * (l.filter qa).length + b * (l.filter qb).length
 | [],_=>by simp
 | x :: l,h=>by
  have ih:=sum_len (l:=l) fun y hy=>h y (by simp [hy])
  have h1:=h x (by simp)
  rw [List.flatMap_cons,List.length_append,List.filter_cons,List.filter_cons]
  cases h2:qa x <;> cases h3:qb x <;> simp only [h2,h3,if_true,if_false,Bool.false_eq_true,List.length_cons,Nat.mul_add,Nat.mul_one] at h1 ⊢ <;> omega
noncomputable def canB (S:Sp) (p:Pp):Bool:=@decide (∃ f,Snd S f p) (Classical.propDecidable _)
theorem canB_snd {S:Sp} {B:(Th→Int)→Pp→Bool} (hB:SndIs S B) {p:Pp} (h:canB S p=false) (f:Th→Int):B f p=false:=by
 cases e:B f p with
 | false=>rfl
 | true=>exact absurd ⟨f,(hB f p).1 e⟩ (@of_decide_eq_false _ (Classical.propDecidable _) h)
theorem canB_is {S:Sp} {p:Pp} (h:canB S p=true):∃ f,Snd S f p:=@of_decide_eq_true _ (Classical.propDecidable _) h
def intsFrom (lo:Int) (n:Nat):List Int:=(List.range n).map fun (k:Nat)=>lo + (k:Int)
theorem mem_intsFrom {lo:Int} {n:Nat} {k:Int}:k∈intsFrom lo n ↔ lo≤k∧k < lo + n:=by
 unfold intsFrom
 rw [List.mem_map]
 constructor
 ·rintro ⟨a,ha,rfl⟩
  have:=List.mem_range.1 ha
  omega
 ·rintro ⟨h1,h2⟩
  exact ⟨(k - lo).toNat,List.mem_range.2 (by omega),by omega⟩
def playAll (S:Sp):List Pp:=S.ss.flatMap fun x=>match S.ds[x.div.toNat]? with
 | none=>[]
 | some d=>(intsFrom d.lo (d.hi - d.lo + 1).toNat).flatMap (playsL x)
theorem len_flat {α β:Type} {g:α→List β} {a:Nat}:∀ {l:List α},(∀ x∈l,(g x).length≤a)→(l.flatMap g).length≤l.length * a
 | [],_=>by simp
 | x :: l,h=>by
  have ih:=len_flat (l:=l) fun y hy=>h y (by simp [hy])
  have h1:=h x (by simp)
  rw [List.flatMap_cons,List.length_append,List.length_cons,Nat.add_mul]
  omega
theorem keysP_ge {ds:List Dv} {a:Int}:a≤ds.foldl (fun a d=>max a (d.hi - d.lo + 1)) a∧∀ d∈ds,d.hi - d.lo + 1≤ds.foldl (fun a d=>max a (d.hi - d.lo + 1)) a:=by
 induction ds generalizing a with
 | nil=>exact ⟨Int.le_refl _,fun d h=>by cases h⟩
 | cons x ds ih =>
  rw [List.foldl_cons]
  obtain ⟨h1,h2⟩:=ih (a:=max a (x.hi - x.lo + 1))
  refine ⟨by omega,fun d hd=>?_⟩
  rcases List.mem_cons.1 hd with rfl | hd
  ·omega
  ·exact h2 d hd
theorem playAll_len {S:Sp} (g:SpGood S):(playAll S).length≤S.ss.length * ((keysP S.ds).toNat * 12):=by
 unfold playAll
 refine len_flat fun x hx=>?_
 cases hd:S.ds[x.div.toNat]? with
 | none=>simp
 | some d =>
  simp only
  obtain ⟨hi,rfl⟩:=List.getElem?_eq_some_iff.1 hd
  have h1:=(keysP_ge (ds:=S.ds) (a:=0)).2 _ (List.getElem_mem hi)
  have h2:=len_flat (g:=playsL x) (a:=12) (l:=intsFrom S.ds[x.div.toNat].lo (S.ds[x.div.toNat].hi - S.ds[x.div.toNat].lo + 1).toNat) fun k _=>by
   unfold playsL
   rw [List.length_map]
   have:=List.length_filter_le (fun y:Pt=>decide (y.lo≤k∧k≤y.hi)) x.parts
   have:=(g.s x hx).2.2.2
   omega
  refine Nat.le_trans h2 (Nat.mul_le_mul_right _ ?_)
  unfold intsFrom
  rw [List.length_map,List.length_range]
  unfold keysP
  omega
theorem can_plays {S:Sp} {p:Pp} (h:canB S p=true):p∈playAll S:=by
 obtain ⟨f,i,hi,_,key,_,hk,hp⟩:=canB_is h
 unfold keyOk keyIn at hk
 unfold playAll
 refine List.mem_flatMap.2 ⟨_,List.getElem_mem hi,?_⟩
 cases hd:S.ds[S.ss[i].div.toNat]? with
 | none =>
  have h1:=List.getElem?_eq_none_iff.1 hd
  simp only [Bool.and_eq_true,decide_eq_true_eq] at hk
  omega
 | some d =>
  rw [hd] at hk
  simp only [Bool.and_eq_true,decide_eq_true_eq] at hk
  exact List.mem_flatMap.2 ⟨key,mem_intsFrom.2 (by omega),mem_playsL.2 hp⟩
theorem allFrom_cnt {l:List Rk} (h:∀ r∈l,rkE r=0):∀ (n:Int),((allFrom n l).length:Int)=cntP l:=by
 induction l with
 | nil=>intro n; rfl
 | cons r l ih =>
  intro n
  have hr:=rk_ok (h r (by simp))
  rw [allFrom,List.length_append,ofRank_len,cntP,← ih (fun x hx=>h x (by simp [hx])) (n + 1)]
  push_cast
  omega
theorem can_few {S:Sp} {l:List Ev} (hs:Small S l) (hc:(checkP S).2=0):((allFrom 0 S.rs).filter (canB S)).length≤244:=by
 have g:=spGood hc
 have hf:=hs.few hc
 unfold pipesP at hf
 rw [if_pos hc,← allFrom_cnt g.r 0] at hf
 simp only at hf
 have h1:=List.length_filter_le (canB S) (allFrom 0 S.rs)
 have h2:((allFrom 0 S.rs).filter (canB S)).length≤(playAll S).length:=len_sub (nodup_pp ((asc_allFrom _ _).sublist List.filter_sublist)) fun x hx=>can_plays (List.mem_filter.1 hx).2
 have h3:=playAll_len g
 have hk:0≤keysP S.ds:=(keysP_ge (ds:=S.ds) (a:=0)).1
 obtain ⟨k,hk2⟩:∃ k:Nat,keysP S.ds=(k:Int):=⟨(keysP S.ds).toNat,by omega⟩
 rw [hk2] at hf h3
 generalize ((allFrom 0 S.rs).filter (canB S)).length=x at *
 generalize (allFrom 0 S.rs).length=n at *
 generalize S.ss.length=s at *
 have hf2:n * k * (s + 1)≤5000:=Int.ofNat_le.1 (by rw [Int.natCast_mul,Int.natCast_mul,Int.natCast_add]; exact hf)
 rw [Int.toNat_natCast] at h3
 have h4:x≤s * (k * 12):=Nat.le_trans h2 h3
 have h5:x * x≤n * (s * (k * 12)):=Nat.mul_le_mul h1 h4
 have h6:n * (s * (k * 12))=12 * (n * k * s):=by rw [← Nat.mul_assoc s k 12,← Nat.mul_assoc n (s * k) 12,Nat.mul_comm (n * (s * k)) 12,Nat.mul_comm s k,← Nat.mul_assoc n k s]
 have h7:n * k * s≤n * k * (s + 1):=Nat.mul_le_mul_left _ (by omega)
 rcases Nat.lt_or_ge 244 x with q | q
 ·have:245 * 245≤x * x:=Nat.mul_le_mul q q
  omega
 ·exact q
theorem len_clPut {ts:List Int} {c:Cl}:(clPut ts c).length≤ts.length + 2:=by
 unfold clPut
 split
 ·have h1:=len_putT (t:=c.2.2) (l:=putT ts c.2.1)
  have h2:=len_putT (t:=c.2.1) (l:=ts)
  omega
 ·have h2:=len_putT (t:=c.2.1) (l:=ts)
  omega
theorem len_ticksC':∀ {cls:List Cl} {ts:List Int},(ticksC ts cls).length≤ts.length + 2 * cls.length
 | [],ts=>Nat.le_refl _
 | c :: cls,ts=>by
  have h1:=len_clPut (ts:=ts) (c:=c)
  have h2:=len_ticksC' (cls:=cls) (ts:=clPut ts c)
  show (ticksC (clPut ts c) cls).length≤_
  rw [List.length_cons]
  omega
theorem len_ticksL':∀ {l:List Ev} {ts:List Int},(ticksL ts l).length≤ts.length + l.length
 | [],ts=>Nat.le_refl _
 | x :: l,ts=>by
  have h1:=len_putT (t:=x.1) (l:=ts)
  have h2:=len_ticksL' (l:=l) (ts:=putT ts x.1)
  show (ticksL (putT ts x.1) l).length≤_
  rw [List.length_cons]
  omega
theorem cl_few {S:Sp} {B:(Th→Int)→Pp→Bool} (hB:SndIs S B) {l:List Ev} {cls:List Cl} {m:List Fa} {c:Int} (hs:Small S l) (h:ClP S B l cls m c) (hl:l.length≤20) (hc:cls.length≤12):m.length≤5000:=by
 rcases h with ⟨_,rfl,_⟩ | ⟨hE,⟨_,rfl,_⟩ | ⟨_,hm,_,_⟩⟩
 ·exact Nat.zero_le _
 ·exact Nat.zero_le _
 ·rw [hm.length_eq]
  have hR:=(clsE_ok hE).1
  have hasc:(ticksC (ticksL [] l) cls).Pairwise (· < ·):=asc_ticksC (asc_ticksL List.Pairwise.nil)
  have h0:=nonneg_ticks hE
  have hlen:(ticksC (ticksL [] l) cls).length≤44:=by
   have h1:=len_ticksC' (cls:=cls) (ts:=ticksL [] l)
   have h2:=len_ticksL' (l:=l) (ts:=[])
   simp only [List.length_nil] at h2
   omega
  have h1:(faCl S B l cls).length≤44 * ((allFrom 0 S.rs).filter fun p=>decide (p∈cls.map (·.1))).length + 10 * ((allFrom 0 S.rs).filter (canB S)).length:=by
   unfold faCl faAll
   refine sum_len fun p _=>?_
   rw [List.length_map]
   by_cases q:p∈cls.map (·.1)
   ·rw [decide_eq_true q,if_pos rfl]
    have:=flt_len (kd:=kdCl B l cls p) (was:=0) (ts:=ticksC (ticksL [] l) cls)
    omega
   ·rw [decide_eq_false q,if_neg Bool.false_ne_true,Nat.zero_add]
    have hno:∀ t,(cls.any fun c=>clB c p t)=false:=fun t=>by
     rw [List.any_eq_false]
     intro c hc
     have:c.1≠p:=fun e=>q (List.mem_map.2 ⟨c,hc,e⟩)
     unfold clB
     rw [decide_eq_false this,Bool.false_and,Bool.false_and]
     exact Bool.false_ne_true
    have hk:∀ t,kdCl B l cls p t=if B (upF l t) p then 1 else 0:=fun t=>by
     unfold kdCl
     rw [hno]
     cases B (upF l t) p <;> rfl
    cases hcan:canB S p with
    | false=>rw [flt_zero fun t=>by rw [hk,canB_snd hB hcan]; rfl]; simp
    | true =>
     rw [if_pos rfl]
     have hlo:∀ u∈ticksC (ticksL [] l) cls,(-1:Int) < u:=fun u hu=>by have:=h0 u hu; omega
     have hcalm:=calm_is (kd:=kdCl B l cls p) (T:=l.map (·.1)) (fun t u h=>by rw [hk,hk,upF_dep (t:=t) (u:=u) fun x hx=>h _ (List.mem_map.2 ⟨x,hx,rfl⟩)]) (lo:=-1) hasc hlo (fun x hx=>by
      obtain ⟨y,hy,rfl⟩:=List.mem_map.1 hx
      exact .inr (mem_ticksC.2 (.inl (mem_ticksL.2 (.inr ⟨y,hy,rfl⟩)))))
     rw [kdCl_before hB hlo] at hcalm
     rw [flt_thin (thin_filter hcalm)]
     have h2:=(flt_half (kd:=kdCl B l cls p) (fun t=>by rw [hk]; cases B (upF l t) p <;> simp) ((ticksC (ticksL [] l) cls).filter fun t=>decide (t∈l.map (·.1)))).1
     have h3:((ticksC (ticksL [] l) cls).filter fun t=>decide (t∈l.map (·.1))).length≤(l.map (·.1)).length:=len_sub (nodup_asc (hasc.sublist List.filter_sublist)) fun x hx=>of_decide_eq_true (List.mem_filter.1 hx).2
     rw [List.length_map] at h3
     omega
  have h2:=can_few hs hR.sp
  have h3:((allFrom 0 S.rs).filter fun p=>decide (p∈cls.map (·.1))).length≤(cls.map (·.1)).length:=len_sub (nodup_pp ((asc_allFrom _ _).sublist List.filter_sublist)) fun x hx=>of_decide_eq_true (List.mem_filter.1 hx).2
  rw [List.length_map] at h3
  omega
end Go.Proofs.YthhfmppealmblaaGreatDoor
namespace Go.Proofs.YthhfmppealmblaaGreatDoor
open Go.RowKit
def NearR (base n:Nat) (w:World) (e:Ending) (w':World):Prop:=∃ V xs,e = .returned V∧w'.ownsRow base 2 1 V xs.length (iCs xs)∧xs.length≤n + 3∧Below base w w'
theorem row_formS {W:World} {base:Nat} {t:TypeId} {k n:Nat} {v:Value} {xs:List Value} (h:W.ownsRow base t k v n xs):∃ a c,v = .slice a n c:=by
 rcases h.2 with ⟨rfl,rfl⟩ | ⟨g,cap,cur,rfl,_⟩
 ·exact ⟨_,_,rfl⟩
 ·exact ⟨_,_,rfl⟩
set_option maxRecDepth 100000 in
set_option maxHeartbeats 3200000 in
theorem near_any (base:Nat) (V:Value) (xs:List Int) (t:Int) (w:World) (hrow:w.ownsRow base 2 1 V xs.length (iCs xs)) (hb:base≤w.heap.size) (ht:0≤t∧t≤100000000) (hl:xs.length≤100000) :
  Calls Tryz.prog 18 #[V,.int .i64 t] w (NearR base xs.length w):=by
 obtain ⟨i0,hi0,hz0,hz1,hz2⟩:=info_parts int_info
 obtain ⟨ht0,ht1⟩:=ht
 have HR0:=Lib.hid hrow
 have HB0:=Lib.hid (Below.refl base w)
 clear hrow
 have hsz0:=Lib.hid hb
 clear hb
 go_enter Tryz.func18,Tryz.ntmps18
 go_wp2
 go_loopw [0,5] (fun v x wr=>∃ (i:Nat) (ys:List Int),i≤3∧x = .int .i64 ((i:Int) - 1)∧ys.length≤xs.length + i∧RowKit.Hid (wr.ownsRow base 2 1 v ys.length (iCs ys))∧RowKit.Hid (Below base w wr)) (fun _ x _=>3 - (intOf x + 1).toNat)
 case atStart=>exact ⟨0,xs,by omega,rfl,Nat.le_refl _,HR0,HB0⟩
 clear HR0 HB0
 obtain ⟨i,ys,hi,rfl,hln,hrow,hB⟩:=hrel
 by_cases hil:i < 3
 ·have hi2:(i:Int) - 1≤1:=by omega
  have hi3 : -1≤(i:Int) - 1:=by omega
  have hsz:base≤wr.heap.size:=Nat.le_trans hsz0.out hB.out.size
  by_cases h0:0≤t + ((i:Int) - 1)
  ·have d0:decide (0≤t + ((i:Int) - 1))=true:=decide_eq_true h0
   clear h0
   go_wp2_with (at_builtin; refine wpList_append_lies _ rfl _ _ 39 rfl base 2 i0 _ 1 8 Tryz.underlying39 hi0 hz0 hz1 hz2 rfl (by omega) _ _ _ rfl (hrow.out.alloc _) ⟨wr.heap.size,0,none⟩ 1 1 [.int .i64 (t + ((i:Int) - 1))] rfl rfl (World.news_of_block (cs:=#[.int .i64 (t + ((i:Int) - 1))]) (t:=2) (fr:=(0,0)) (heap_alloc_new wr _)) (by simp [Value.oneCell']) (by omega) (by unfold maxLen; omega) (by omega) (by simp; omega) (wr.heap.size + 1) (by simp) ?_; intro gg cap w3 hown3 hgrow hat3 hlt3)
   have HP:=Lib.hid (show w3.ownsRow base 2 1 (.slice (some ⟨gg,0,none⟩) (ys.length + 1) cap) (ys ++ [t + ((i:Int) - 1)]).length (iCs (ys ++ [t + ((i:Int) - 1)])) by rw [iCs_snoc,List.length_append,List.length_singleton]; exact hown3)
   have HB3:=Lib.hid ((hB.out.alloc hsz _).grown hgrow (by simp; omega) (fun j e=>row_ge hrow.out e))
   clear hown3 hgrow hat3 hlt3
   go_wp2
   go_roundw
   case rel=>exact ⟨i + 1,_,by omega,by go_num,by simp; omega,HP,HB3⟩
   case measure=>simp [intOf]; omega
  ·have d0:decide (0≤t + ((i:Int) - 1))=false:=decide_eq_false h0
   clear h0
   go_wp2
   go_roundw
   case rel=>exact ⟨i + 1,ys,by omega,by go_num,by omega,hrow,hB⟩
   case measure=>simp [intOf]; omega
 ·have hi2:¬ (i:Int) - 1≤1:=by omega
  go_wp2
  go_ret
  exact ⟨_,ys,rfl,hrow.out,by omega,hB.out⟩
end Go.Proofs.YthhfmppealmblaaGreatDoor
