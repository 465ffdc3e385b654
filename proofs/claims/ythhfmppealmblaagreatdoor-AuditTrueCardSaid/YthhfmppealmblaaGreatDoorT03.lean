/-
  A part of the proof: AW, F1c, LG, TA, TB, TC, TD, TE, TF, TG.
-/
import Derived.Test.YthhfmppealmblaaGreatDoorT02
import Derived.Deep.RegionHeld3
import Derived.Test.YthhfmppealmblaaGreatDoorQ02
import Derived.Test.YthhfmppealmblaaGreatDoorQ04
import Derived.Test.YthhfmppealmblaaGreatDoorQ16
import Derived.Test.YthhfmppealmblaaGreatDoorQ07
import Derived.Test.YthhfmppealmblaaGreatDoorQ20
import Derived.Test.YthhfmppealmblaaGreatDoorQ21
import Derived.Test.YthhfmppealmblaaGreatDoorQ19
import Derived.Test.YthhfmppealmblaaGreatDoorQ34
import Derived.Test.YthhfmppealmblaaGreatDoorQ22
namespace Go.Proofs.YthhfmppealmblaaGreatDoor
open Go.RowKit
theorem ard_cls {W:World} {b:Nat} {t:TypeId} (h:Blk W b t #[.int .i64 0,.int .i64 40,.int .i64 10,.int .i64 30,.int .i64 0,.int .i64 52,.int .i64 20,.int .i64 60]):ARd W (.slice (some ⟨b,0,none⟩) 2 2) 4 (exCl.map clC) :=
 ARd.of_blk (k:=4) (rows:=exCl.map clC) h (by intro r hr; obtain ⟨x,_,rfl⟩:=List.mem_map.1 hr; rfl) rfl _ _ rfl
theorem ard_fas {W:World} {b:Nat} {t:TypeId} (h:Blk W b t #[.int .i64 1,.int .i64 0,.int .i64 52,.int .i64 10,.int .i64 20,.int .i64 2,.int .i64 0,.int .i64 52,.int .i64 50,.int .i64 60]):ARd W (.slice (some ⟨b,0,none⟩) 2 2) 5 (([(1,(0,52),10,20),(2,(0,52),50,60)]:List Fa).map faC) :=
 ARd.of_blk (k:=5) (rows:=([(1,(0,52),10,20),(2,(0,52),50,60)]:List Fa).map faC) h (by intro r hr; obtain ⟨x,_,rfl⟩:=List.mem_map.1 hr; rfl) rfl _ _ rfl
set_option maxRecDepth 100000 in
set_option maxHeartbeats 6400000 in
theorem awake_any (w:World) (t:Tabs w):Calls Tryz.prog 13 #[] w (BoR true w):=by
 have HT:=Lib.hid t
 clear t
 go_enter Tryz.func13,Tryz.ntmps13
 go_wp2_with fail
 refine (example_any w).mono ?_
 rintro e W1 ⟨rfl,hm,hb1⟩
 have HM1:=Lib.hid hm
 have HB1:=Lib.hid hb1
 clear hm hb1
 go_wp2_with fail
 refine (events_any W1).mono ?_
 rintro e W2 ⟨rfl,hev,hb2⟩
 have hsr:=(HM1.out.below hb2).rd
 obtain ⟨p,hp⟩:∃ p,w.heap.size=p:=⟨_,rfl⟩
 rw [hp] at hsr ⊢
 obtain ⟨pe,hpe⟩:∃ p,W1.heap.size=p:=⟨_,rfl⟩
 rw [hpe] at hev ⊢
 have HB2:=Lib.hid (below_step HB1.out hb2)
 have HP:=Lib.hid hp
 have hal:Below W2.heap.size W2 (W2.alloc (.cells #[.slice (some ⟨p + 3,0,none⟩) 1 1,.slice (some ⟨p + 4,0,none⟩) 2 2,.slice (some ⟨p + 8,0,none⟩) 3 3,.slice (some ⟨p + 9,0,none⟩) 1 1] 27)):=(Below.refl _ _).alloc (Nat.le_refl _) _
 have hk:=Blk.new W2 27 #[.slice (some ⟨p + 3,0,none⟩) 1 1,.slice (some ⟨p + 4,0,none⟩) 2 2,.slice (some ⟨p + 8,0,none⟩) 3 3,.slice (some ⟨p + 9,0,none⟩) 1 1]
 have HSR:=Lib.hid (hsr.later hal)
 have HEV:=Lib.hid (hev.later hal)
 have HK:=Lib.hid hk
 have HB3:=Lib.hid (below_step HB2.out hal)
 clear hsr hev hp hpe hb2 HM1 HB1 HB2 hal hk
 go_upto_region 2 with fail
 obtain ⟨P,hP⟩:∃ P,W2.heap.size=P:=⟨_,rfl⟩
 rw [hP] at HK ⊢
 generalize W2.alloc (.cells #[.slice (some ⟨p + 3,0,none⟩) 1 1,.slice (some ⟨p + 4,0,none⟩) 2 2,.slice (some ⟨p + 8,0,none⟩) 3 3,.slice (some ⟨p + 9,0,none⟩) 1 1] 27)=W3 at *
 obtain ⟨v1,hv1⟩:∃ v:Value,.slice (some ⟨p + 3,0,none⟩) 1 1=v:=⟨_,rfl⟩
 obtain ⟨v2,hv2⟩:∃ v:Value,.slice (some ⟨p + 4,0,none⟩) 2 2=v:=⟨_,rfl⟩
 obtain ⟨v3,hv3⟩:∃ v:Value,.slice (some ⟨p + 8,0,none⟩) 3 3=v:=⟨_,rfl⟩
 obtain ⟨v4,hv4⟩:∃ v:Value,.slice (some ⟨p + 9,0,none⟩) 1 1=v:=⟨_,rfl⟩
 rw [hv1,hv2,hv3,hv4] at HK HSR
 try rw [hv1]
 try rw [hv2]
 try rw [hv3]
 try rw [hv4]
 clear hP hv1 hv2 hv3 hv4
 obtain ⟨s0,s1,s2,s3⟩:=HK.out.four
 have hdr:=hold4 (W0:=W3) ⟨Below.refl _ W3,s0,s1,s2,s3⟩ ((Below.refl _ W3).drew)
 have HCLM:=Lib.hid (fun (W:World) (hb:Below W3.heap.size W3 W) (b:Nat) (hk:Blk W b 47 #[.int .i64 0,.int .i64 40,.int .i64 10,.int .i64 30,.int .i64 0,.int .i64 52,.int .i64 20,.int .i64 60])=>aclaims_any v1 v2 v3 v4 (exS 37) (exS_ok 37) _ exEv (.slice (some ⟨pe,0,none⟩) 7 7) exCl (.slice (some ⟨b,0,none⟩) 2 2) (sndB (exS 37)) (sndB_is exS_thr) W (HT.out.below (below_step HB3.out hb)) (HSR.out.later hb) (HEV.out.later hb) (ard_cls hk) (by decide) (by decide))
 clear s0 s1 s2 s3
 go_region_held3 (fun w'=>Below W3.heap.size W3 w'∧w'.cell? ⟨P,0,none⟩=some v1∧w'.cell? ⟨P,1,none⟩=some v2∧w'.cell? ⟨P,2,none⟩=some v3∧w'.cell? ⟨P,3,none⟩=some v4) (first | exact hdr | assumption | exact hold4 (by assumption) ((Below.refl _ _).alloc (Nat.le_refl _) _)) (first | (go_at_call 38; (with_reducible refine (flute_any 40 _).mono ?_); rintro e w5 ⟨rfl,hb5⟩; have hn5:=hold4 hdr hb5; clear hb5) | (go_at_call 38; (with_reducible refine (flute_any 52 _).mono ?_); rintro e w6 ⟨rfl,hb6⟩; have hn6:=hold4 hn5 hb6; clear hb6) | (go_at_call 14; refine (HCLM.out _ (hn6.1.alloc hn6.1.size _) _ (Blk.new _ _ _)).mono ?_; rintro e w8 ⟨vf,mf,cf,rfl,hrow,hcl,hb8⟩; obtain ⟨rfl,rfl⟩:=ex_out hcl; have hn8:=hold4 (hold4 hn6 ((Below.refl _ _).alloc (Nat.le_refl _) _)) hb8; clear hb8 hcl))
 have HB8:=Lib.hid (below_step HB3.out hn8.1)
 have HRF:=Lib.hid (ARd.of_fas hrow)
 have HPK:=Lib.hid (peak_any v1 v2 v3 v4 (exS 37) (exS_ok 37) _ exEv (.slice (some ⟨pe,0,none⟩) 7 7) (sndB (exS 37)) (sndB_is exS_thr) w8 (HT.out.below HB8.out) (HSR.out.later hn8.1) (HEV.out.later hn8.1) (by decide))
 obtain ⟨_,s0,s1,s2,s3⟩:=hn8
 clear hdr hn5 hn6 hrow HCLM HSR HEV
 go_wp2_with fail
 refine (HPK.out).mono ?_
 rintro e w9 ⟨rfl,hb9⟩
 rw [ex_pk,ex_aud]
 have HB9:=Lib.hid (below_step HB8.out hb9)
 have HF9:=Lib.hid (HRF.out.later hb9)
 clear hb9 HPK s0 s1 s2 s3 HRF HB8
 dsimp only
 go_wp2_with fail
 refine (flute_any 52 _).mono ?_
 rintro e wa ⟨rfl,hba⟩
 have HBa:=Lib.hid (below_step HB9.out hba)
 have HFa:=Lib.hid (HF9.out.later hba)
 clear hba HB9 HF9
 go_wp2_with fail
 refine (flute_any 52 _).mono ?_
 rintro e wb ⟨rfl,hbb⟩
 have hbb2:Below wb.heap.size wb (wb.alloc (.cells #[.int .i64 1,.int .i64 0,.int .i64 52,.int .i64 10,.int .i64 20,.int .i64 2,.int .i64 0,.int .i64 52,.int .i64 50,.int .i64 60] 52)):=(Below.refl _ _).alloc (Nat.le_refl _) _
 have HBb:=Lib.hid (below_step HBa.out (below_step hbb hbb2))
 have HSM:=Lib.hid (same_any _ _ vf (.slice (some ⟨wb.heap.size,0,none⟩) 2 2) _ (HFa.out.later (below_step hbb hbb2)) (ard_fas (Blk.new wb 52 #[.int .i64 1,.int .i64 0,.int .i64 52,.int .i64 10,.int .i64 20,.int .i64 2,.int .i64 0,.int .i64 52,.int .i64 50,.int .i64 60])) (by decide))
 rw [decide_eq_true rfl] at HSM
 clear hbb hbb2 HBa HFa
 go_wp2_with fail
 refine (HSM.out).mono ?_
 rintro e wc ⟨rfl,hbc⟩
 have HBc:=Lib.hid (below_step HBb.out hbc)
 clear hbc HSM HBb
 go_wp2
 go_ret
 exact ⟨rfl,HBc.out⟩
end Go.Proofs.YthhfmppealmblaaGreatDoor
namespace Go.Proofs.YthhfmppealmblaaGreatDoor
open Go.RowKit
def FarEnds (S:Sp) (w:World) (e:Ending) (w':World):Prop:=∃ b,e = .returned (.bool b)∧(b=false→SpOk S)∧Below w.heap.size w w'
theorem farEnds_yes {S:Sp} {w w':World} {v:Value} (hv:v = .bool true) (hb:Below w.heap.size w w'):FarEnds S w (.returned v) w':=⟨true,by rw [hv],(fun h=>by cases h),hb⟩
theorem farEnds_of {S:Sp} {w w':World} {v:Value} {b:Bool} (hv:v = .bool b) (h:b=false→SpOk S) (hb:Below w.heap.size w w'):FarEnds S w (.returned v) w':=⟨b,by rw [hv],h,hb⟩
theorem all_of_get {α:Type} {l:List α} {p:α→Prop} (h:∀ j (h:j < l.length),j < l.length→p l[j]):∀ x∈l,p x:=by
 intro x hx
 obtain ⟨j,hj,rfl⟩:=List.mem_iff_getElem.1 hx
 exact h j hj hj
theorem upto_step {α:Type} {l:List α} {p:α→Prop} {k:Nat} (hk:k < l.length) (h:∀ j (h:j < l.length),j < k→p l[j]) (h2:p l[k]):∀ j (h:j < l.length),j < k + 1→p l[j]:=by
 intro j hj hjk
 rcases Nat.lt_succ_iff_lt_or_eq.1 hjk with h' | h'
 ·exact h j hj h'
 ·subst h'; exact h2
set_option maxRecDepth 100000 in
set_option maxHeartbeats 3200000 in
theorem far_long (a1 a2 a3 a4:Option Addr) (c1 c2 c3 c4:Nat) (S:Sp) (w:World) (h:10 < S.ds.length∨(S.ds.length≤10∧50 < S.rs.length)∨(S.ds.length≤10∧S.rs.length≤50∧100 < S.ss.length)∨(S.ds.length≤10∧S.rs.length≤50∧S.ss.length≤100∧40 < S.cs.length)) :
  Calls Tryz.prog 39 #[.agg #[.slice a1 S.ds.length c1,.slice a2 S.rs.length c2,.slice a3 S.ss.length c3,.slice a4 S.cs.length c4]] w (FarEnds S w):=by
 have HB:=Lib.hid (show Below w.heap.size w (w.alloc (.cells #[.slice a1 S.ds.length c1,.slice a2 S.rs.length c2,.slice a3 S.ss.length c3,.slice a4 S.cs.length c4] 27)) from (Below.refl _ w).alloc (Nat.le_refl _) _)
 rcases h with h | ⟨h1,h⟩ | ⟨h1,h2,h⟩ | ⟨h1,h2,h3,h⟩
 all_goals
  go_enter Tryz.func39,Tryz.ntmps39
  go_wp2
  go_ret
  exact farEnds_yes rfl HB.out
set_option maxRecDepth 100000 in
set_option maxHeartbeats 6400000 in
theorem far_short (a1 a2 a3 a4:Option Addr) (c1 c2 c3 c4:Nat) (S:Sp) (w:World) (f:Nat→Value) (hsp:SpRd w (.slice a1 S.ds.length c1) (.slice a2 S.rs.length c2) (.slice a3 S.ss.length c3) (.slice a4 S.cs.length c4) f S)
  (l1:S.ds.length≤10) (l2:S.rs.length≤50) (l3:S.ss.length≤100) (l4:S.cs.length≤40) :
  Calls Tryz.prog 39 #[.agg #[.slice a1 S.ds.length c1,.slice a2 S.rs.length c2,.slice a3 S.ss.length c3,.slice a4 S.cs.length c4]] w (FarEnds S w):=by
 have hb0:Below w.heap.size w (w.alloc (.cells #[.slice a1 S.ds.length c1,.slice a2 S.rs.length c2,.slice a3 S.ss.length c3,.slice a4 S.cs.length c4] 27)):=(Below.refl _ w).alloc (Nat.le_refl _) _
 have k0:Blk (w.alloc (.cells #[.slice a1 S.ds.length c1,.slice a2 S.rs.length c2,.slice a3 S.ss.length c3,.slice a4 S.cs.length c4] 27)) w.heap.size 27 #[.slice a1 S.ds.length c1,.slice a2 S.rs.length c2,.slice a3 S.ss.length c3,.slice a4 S.cs.length c4]:=Blk.new w _ _
 obtain ⟨W,hW⟩:∃ W,W=w.alloc (.cells #[.slice a1 S.ds.length c1,.slice a2 S.rs.length c2,.slice a3 S.ss.length c3,.slice a4 S.cs.length c4] 27):=⟨_,rfl⟩
 have HW:=Lib.hid hW
 rw [← hW] at hb0 k0
 have HB:=Lib.hid hb0
 have HSP:=Lib.hid (hsp.later hb0)
 have HK:=Lib.hid k0
 have g10:decide ((10:Int) < (S.ds.length:Int))=false:=by rw [decide_eq_false_iff_not]; omega
 have g50:decide ((50:Int) < (S.rs.length:Int))=false:=by rw [decide_eq_false_iff_not]; omega
 have g100:decide ((100:Int) < (S.ss.length:Int))=false:=by rw [decide_eq_false_iff_not]; omega
 have g40:decide ((40:Int) < (S.cs.length:Int))=false:=by rw [decide_eq_false_iff_not]; omega
 clear hW hb0 k0 hsp
 go_enter Tryz.func39,Tryz.ntmps39
 go_wp2
 rw [← HW.out]
 clear HW g10 g50 g100 g40
 obtain ⟨s0,s1,s2,s3⟩:=HK.out.four
 go_loop [3,4] (fun u x=>∃ (k:Nat) (b:Bool),k≤S.ds.length∧x = .int .i64 k∧u = .bool b∧RowKit.Hid (b=false→(∀ j (h:j < S.ds.length),j < k→S.ds[j].name.size≤100))) (fun _ x=>S.ds.length - (intOf x).toNat)
 case atStart=>exact ⟨0,false,by omega,rfl,rfl,Lib.hid (fun _=>fun j _ hj=>by omega)⟩
 obtain ⟨k,b0,hk,rfl,rfl,hN⟩:=hrel
 by_cases hlt:k < S.ds.length
 ·obtain ⟨bb,o,c,ev,hbl,r0,_⟩:=HSP.out.dAt k hlt
  cases ev
  have hk2:(k:Int) < (S.ds.length:Int):=by omega
  cases b0 with
  | true =>
   go_wp2
   go_round
   case rel=>exact ⟨k + 1,true,by omega,by go_num,rfl,Lib.hid (fun h=>by cases h)⟩
   case measure=>simp [intOf]; omega
  | false =>
   have HN:=Lib.hid (hN.out rfl)
   clear hN
   by_cases hsz:S.ds[k].name.size≤100
   ·have hd:decide ((100:Int) < (S.ds[k].name.size:Int))=false:=by rw [decide_eq_false_iff_not]; omega
    have HZ:=Lib.hid hsz
    clear hsz
    go_wp2
    go_round
    case rel=>exact ⟨k + 1,false,by omega,by go_num,rfl,Lib.hid (fun _=>upto_step (p:=fun x=>x.name.size≤100) hlt HN.out HZ.out)⟩
    case measure=>simp [intOf]; omega
   ·have hd:decide ((100:Int) < (S.ds[k].name.size:Int))=true:=by rw [decide_eq_true_iff]; omega
    clear hsz
    go_wp2
    go_round
    case rel=>exact ⟨k + 1,true,by omega,by go_num,rfl,Lib.hid (fun h=>by cases h)⟩
    case measure=>simp [intOf]; omega
 ·have hke:k=S.ds.length:=by omega
  have hk2:¬ ((k:Int) < (S.ds.length:Int)):=by omega
  have HN0:=hN
  rw [hke] at HN0
  clear hN
  go_wp2
  clear hke hk2 hlt hk
  go_loop [3,5] (fun u x=>∃ (k:Nat) (b:Bool),k≤S.rs.length∧x = .int .i64 k∧u = .bool b∧RowKit.Hid (b=false→(∀ j (h:j < S.ds.length),j < S.ds.length→S.ds[j].name.size≤100)∧(∀ j (h:j < S.rs.length),j < k→S.rs[j].name.size≤100))) (fun _ x=>S.rs.length - (intOf x).toNat)
  case atStart=>exact ⟨0,b0,by omega,rfl,rfl,Lib.hid (fun hb=>⟨HN0.out hb,fun j _ hj=>by omega⟩)⟩
  clear HN0
  obtain ⟨k,b1,hk,rfl,rfl,hN⟩:=hrel
  by_cases hlt:k < S.rs.length
  ·obtain ⟨bb,o,c,ev,hbl,r0,_⟩:=HSP.out.rAt k hlt
   cases ev
   have hk2:(k:Int) < (S.rs.length:Int):=by omega
   cases b1 with
   | true =>
    go_wp2
    go_round
    case rel=>exact ⟨k + 1,true,by omega,by go_num,rfl,Lib.hid (fun h=>by cases h)⟩
    case measure=>simp [intOf]; omega
   | false =>
    have HN:=Lib.hid (hN.out rfl)
    clear hN
    by_cases hsz:S.rs[k].name.size≤100
    ·have hd:decide ((100:Int) < (S.rs[k].name.size:Int))=false:=by rw [decide_eq_false_iff_not]; omega
     have HZ:=Lib.hid hsz
     clear hsz
     go_wp2
     go_round
     case rel=>exact ⟨k + 1,false,by omega,by go_num,rfl,Lib.hid (fun _=>⟨HN.out.1,upto_step (p:=fun x=>x.name.size≤100) hlt (HN.out.2) HZ.out⟩)⟩
     case measure=>simp [intOf]; omega
    ·have hd:decide ((100:Int) < (S.rs[k].name.size:Int))=true:=by rw [decide_eq_true_iff]; omega
     clear hsz
     go_wp2
     go_round
     case rel=>exact ⟨k + 1,true,by omega,by go_num,rfl,Lib.hid (fun h=>by cases h)⟩
     case measure=>simp [intOf]; omega
  ·have hke:k=S.rs.length:=by omega
   have hk2:¬ ((k:Int) < (S.rs.length:Int)):=by omega
   have HN1:=hN
   rw [hke] at HN1
   clear hN
   go_wp2
   clear hke hk2 hlt hk
   go_loop [3,6] (fun u x=>∃ (k:Nat) (b:Bool),k≤S.ss.length∧x = .int .i64 k∧u = .bool b∧RowKit.Hid (b=false→(∀ j (h:j < S.ds.length),j < S.ds.length→S.ds[j].name.size≤100)∧(∀ j (h:j < S.rs.length),j < S.rs.length→S.rs[j].name.size≤100)∧(∀ j (h:j < S.ss.length),j < k→S.ss[j].name.size≤100∧S.ss[j].parts.length≤20))) (fun _ x=>S.ss.length - (intOf x).toNat)
   case atStart=>exact ⟨0,b1,by omega,rfl,rfl,Lib.hid (fun hb=>⟨(HN1.out hb).1,(HN1.out hb).2,fun j _ hj=>by omega⟩)⟩
   clear HN1
   obtain ⟨k,b2,hk,rfl,rfl,hN⟩:=hrel
   by_cases hlt:k < S.ss.length
   ·obtain ⟨bb,o,c,ev,hbl,r0,_,_,_,r4⟩:=HSP.out.sAt k hlt
    obtain ⟨ap,cp,efp⟩:=(HSP.out.p k hlt).form
    rw [List.length_map] at efp
    rw [efp] at r4
    clear efp
    cases ev
    have hk2:(k:Int) < (S.ss.length:Int):=by omega
    cases b2 with
    | true =>
     go_wp2
     go_round
     case rel=>exact ⟨k + 1,true,by omega,by go_num,rfl,Lib.hid (fun h=>by cases h)⟩
     case measure=>simp [intOf]; omega
    | false =>
     have HN:=Lib.hid (hN.out rfl)
     clear hN
     by_cases hsz:S.ss[k].name.size≤100
     ·have hd:decide ((100:Int) < (S.ss[k].name.size:Int))=false:=by rw [decide_eq_false_iff_not]; omega
      have HZ:=Lib.hid hsz
      clear hsz
      by_cases hpz:S.ss[k].parts.length≤20
      ·have hd2:decide ((20:Int) < (S.ss[k].parts.length:Int))=false:=by rw [decide_eq_false_iff_not]; omega
       have HZ2:=Lib.hid hpz
       clear hpz
       go_wp2
       go_round
       case rel=>exact ⟨k + 1,false,by omega,by go_num,rfl,Lib.hid (fun _=>⟨HN.out.1,HN.out.2.1,upto_step (p:=fun x=>x.name.size≤100∧x.parts.length≤20) hlt (HN.out.2.2) ⟨HZ.out,HZ2.out⟩⟩)⟩
       case measure=>simp [intOf]; omega
      ·have hd2:decide ((20:Int) < (S.ss[k].parts.length:Int))=true:=by rw [decide_eq_true_iff]; omega
       clear hpz
       go_wp2
       go_round
       case rel=>exact ⟨k + 1,true,by omega,by go_num,rfl,Lib.hid (fun h=>by cases h)⟩
       case measure=>simp [intOf]; omega
     ·have hd:decide ((100:Int) < (S.ss[k].name.size:Int))=true:=by rw [decide_eq_true_iff]; omega
      clear hsz
      go_wp2
      go_round
      case rel=>exact ⟨k + 1,true,by omega,by go_num,rfl,Lib.hid (fun h=>by cases h)⟩
      case measure=>simp [intOf]; omega
   ·have hke:k=S.ss.length:=by omega
    have hk2:¬ ((k:Int) < (S.ss.length:Int)):=by omega
    have HN2:=hN
    rw [hke] at HN2
    clear hN
    go_wp2
    clear hke hk2 hlt hk
    go_loop [3,7] (fun u x=>∃ (k:Nat) (b:Bool),k≤S.cs.length∧x = .int .i64 k∧u = .bool b∧RowKit.Hid (b=false→(∀ j (h:j < S.ds.length),j < S.ds.length→S.ds[j].name.size≤100)∧(∀ j (h:j < S.rs.length),j < S.rs.length→S.rs[j].name.size≤100)∧(∀ j (h:j < S.ss.length),j < S.ss.length→S.ss[j].name.size≤100∧S.ss[j].parts.length≤20)∧(∀ j (h:j < S.cs.length),j < k→S.cs[j].name.size≤100))) (fun _ x=>S.cs.length - (intOf x).toNat)
    case atStart=>exact ⟨0,b2,by omega,rfl,rfl,Lib.hid (fun hb=>⟨(HN2.out hb).1,(HN2.out hb).2.1,(HN2.out hb).2.2,fun j _ hj=>by omega⟩)⟩
    clear HN2
    obtain ⟨k,b3,hk,rfl,rfl,hN⟩:=hrel
    by_cases hlt:k < S.cs.length
    ·obtain ⟨bb,o,c,ev,hbl,r0,_⟩:=HSP.out.cAt k hlt
     cases ev
     have hk2:(k:Int) < (S.cs.length:Int):=by omega
     cases b3 with
     | true =>
      go_wp2
      go_round
      case rel=>exact ⟨k + 1,true,by omega,by go_num,rfl,Lib.hid (fun h=>by cases h)⟩
      case measure=>simp [intOf]; omega
     | false =>
      have HN:=Lib.hid (hN.out rfl)
      clear hN
      by_cases hsz:S.cs[k].name.size≤100
      ·have hd:decide ((100:Int) < (S.cs[k].name.size:Int))=false:=by rw [decide_eq_false_iff_not]; omega
       have HZ:=Lib.hid hsz
       clear hsz
       go_wp2
       go_round
       case rel=>exact ⟨k + 1,false,by omega,by go_num,rfl,Lib.hid (fun _=>⟨HN.out.1,HN.out.2.1,HN.out.2.2.1,upto_step (p:=fun x=>x.name.size≤100) hlt (HN.out.2.2.2) HZ.out⟩)⟩
       case measure=>simp [intOf]; omega
      ·have hd:decide ((100:Int) < (S.cs[k].name.size:Int))=true:=by rw [decide_eq_true_iff]; omega
       clear hsz
       go_wp2
       go_round
       case rel=>exact ⟨k + 1,true,by omega,by go_num,rfl,Lib.hid (fun h=>by cases h)⟩
       case measure=>simp [intOf]; omega
    ·have hke:k=S.cs.length:=by omega
     have hk2:¬ ((k:Int) < (S.cs.length:Int)):=by omega
     have HN3:=hN
     rw [hke] at HN3
     clear hN
     go_wp2
     go_ret
     exact farEnds_of (b:=b3) rfl (fun h=>by
      obtain ⟨n1,n2,n3,n4⟩:=HN3.out h
      exact ⟨by omega,by omega,by omega,by omega,fun x hx=>by have:=all_of_get (p:=fun x=>x.name.size≤100) n1 x hx; omega,fun x hx=>by have:=all_of_get (p:=fun x=>x.name.size≤100) n2 x hx; omega,fun x hx=>by have:=(all_of_get (p:=fun x=>x.name.size≤100∧x.parts.length≤20) n3 x hx).1; omega,fun x hx=>by have:=all_of_get (p:=fun x=>x.name.size≤100) n4 x hx; omega,fun x hx=>by have:=(all_of_get (p:=fun x=>x.name.size≤100∧x.parts.length≤20) n3 x hx).2; omega⟩) HB.out
theorem far_any (v1 v2 v3 v4:Value) (S:Sp) (w:World) (f:Nat→Value) (hsp:SpRd w v1 v2 v3 v4 f S) :
  Calls Tryz.prog 39 #[.agg #[v1,v2,v3,v4]] w (FarEnds S w):=by
 obtain ⟨⟨a1,c1,rfl⟩,⟨a2,c2,rfl⟩,⟨a3,c3,rfl⟩,⟨a4,c4,rfl⟩⟩:=hsp.forms
 by_cases h:S.ds.length≤10∧S.rs.length≤50∧S.ss.length≤100∧S.cs.length≤40
 ·obtain ⟨l1,l2,l3,l4⟩:=h
  exact far_short a1 a2 a3 a4 c1 c2 c3 c4 S w f hsp l1 l2 l3 l4
 ·exact far_long a1 a2 a3 a4 c1 c2 c3 c4 S w (by omega)
end Go.Proofs.YthhfmppealmblaaGreatDoor
namespace Go.Proofs.YthhfmppealmblaaGreatDoor
open Go.RowKit
def keysP (ds:List Dv):Int:=ds.foldl (fun a d=>max a (d.hi - d.lo + 1)) 0
theorem keysP_take {ds:List Dv} {i:Nat} (h:i < ds.length):keysP (ds.take (i + 1))=max (keysP (ds.take i)) (ds[i].hi - ds[i].lo + 1):=by
 unfold keysP
 rw [List.take_succ_eq_append_getElem h,List.foldl_append]
 rfl
structure Small (S:Sp) (l:List Ev):Prop where
 ok:SpOk S
 len:l.length≤40∨20000 < l.length∧l.length≤20100
 few:(checkP S).2=0→(pipesP S).1 * keysP S.ds * (S.ss.length + 1)≤5000
def GreatE (S:Sp) (l:List Ev) (w:World) (e:Ending) (w':World):Prop:=∃ b,e = .returned (.bool b)∧(b=false→Small S l)∧Below w.heap.size w w'
theorem greatE_yes {S:Sp} {l:List Ev} {w w':World} (hb:Below w.heap.size w w'):GreatE S l w (.returned (.bool true)) w':=⟨true,rfl,(fun h=>by cases h),hb⟩
set_option maxRecDepth 100000 in
set_option maxHeartbeats 6400000 in
theorem great_any (v1 v2 v3 v4:Value) (S:Sp) (f:Nat→Value) (l:List Ev) (vl:Value) (w:World) (hsp:SpRd w v1 v2 v3 v4 f S) (hlv:ARd w vl 5 (l.map evC)) :
  Calls Tryz.prog 12 #[.agg #[v1,v2,v3,v4],vl] w (GreatE S l w):=by
 obtain ⟨al,cl,evl⟩:=hlv.evForm
 subst evl
 have hal:=(Below.refl _ w).alloc (Nat.le_refl w.heap.size) (.cells #[v1,v2,v3,v4] 27)
 have hk:=Blk.new w 27 #[v1,v2,v3,v4]
 have HFA:=Lib.hid (far_any v1 v2 v3 v4 S _ f (hsp.later hal))
 have HAL:=Lib.hid hal
 have HK:=Lib.hid hk
 have HSP:=Lib.hid hsp
 obtain ⟨s0,s1,s2,s3⟩:=hk.four
 clear hal hk hsp hlv
 go_enter Tryz.func12,Tryz.ntmps12
 go_wp2_with fail
 refine (HFA.out).mono ?_
 rintro e W ⟨b,rfl,hb0,hb⟩
 have HB1:=Lib.hid (below_step HAL.out hb)
 have HK1:=Lib.hid (HK.out.below hb)
 clear hb HFA HAL HK s0 s1 s2 s3
 cases b with
 | true =>
  go_wp2
  go_ret
  exact greatE_yes HB1.out
 | false =>
 have ok:=hb0 rfl
 have HOK:=Lib.hid ok
 have HRP:=Lib.hid (rpipes_any v1 v2 v3 v4 S ok W f (HSP.out.later HB1.out))
 clear hb0 ok
 by_cases g1:40 < l.length
 ·have q1:(40:Int) < (l.length:Int):=by omega
  have d1:decide ((40:Int) < (l.length:Int))=true:=decide_eq_true q1
  by_cases g2:l.length≤20000
  ·have q2:(l.length:Int)≤20000:=by omega
   go_wp2
   go_ret
   exact greatE_yes HB1.out
  have d2:decide ((l.length:Int)≤20000)=false:=decide_eq_false (by omega)
  by_cases g3:20100 < l.length
  ·have q3:(20100:Int) < (l.length:Int):=by omega
   go_wp2
   go_ret
   exact greatE_yes HB1.out
  have d3:decide ((20100:Int) < (l.length:Int))=false:=decide_eq_false (by omega)
  have HLE:RowKit.Hid (l.length≤40∨20000 < l.length∧l.length≤20100):=Lib.hid (.inr ⟨by omega,by omega⟩)
  clear q1 g1 g2 g3
  obtain ⟨u0,u1,u2,u3⟩:=HK1.out.four
  go_wp2_with fail
  refine (HRP.out).mono ?_
  rintro e W2 ⟨rfl,hb2⟩
  have HB2:=Lib.hid (below_step HB1.out hb2)
  have HK2:=Lib.hid (HK1.out.below hb2)
  clear hb2 HRP HK1 HB1 u0 u1 u2 u3
  by_cases hc:(checkP S).2=0
  case neg =>
   have HN:=Lib.hid (show GreatE S l w (.returned (.bool false)) W2 from ⟨false,rfl,fun _=>⟨HOK.out,HLE.out,fun h=>absurd h hc⟩,HB2.out⟩)
   obtain ⟨⟨pn,pe⟩,hpe⟩:∃ q,pipesP S=q:=⟨_,rfl⟩
   have hpe2:pe≠0:=by
    have:=congrArg Prod.snd hpe
    unfold pipesP at this
    rw [if_neg hc] at this
    simp only at this
    rw [← this]
    exact hc
   rw [hpe]
   have q9:(pe == 0)=false:=by simpa using hpe2
   clear hc hpe hpe2
   go_wp2
   go_ret
   exact HN.out
  have hsg:=spGood hc
  have hpe:pipesP S=(cntP S.rs,0):=if_pos hc
  obtain ⟨n0,n1⟩:=cntP_bound hsg.r
  have n2:=hsg.rs
  have n3:=hsg.ss
  have n4:=hsg.ds
  rw [hpe]
  obtain ⟨pn,hpn⟩:∃ pn,cntP S.rs=pn:=⟨_,rfl⟩
  rw [hpn] at hpe n0 n1 ⊢
  have HPE:=Lib.hid hpe
  have HSG:=Lib.hid hsg
  obtain ⟨⟨a1,c1,e1⟩,_,⟨a3,c3,e3⟩,_⟩:=HSP.out.forms
  subst e1 e3
  have HK0:RowKit.Hid (keysP (S.ds.take 0)=0):=Lib.hid rfl
  have HW0:=Lib.hid (Below.refl W2.heap.size W2)
  clear hc hsg hpe hpn
  go_wp2
  go_loopw [7,8] (fun k x wr=>∃ (i:Nat) (kk:Int),i≤S.ds.length∧x = .int .i64 i∧k = .int .i64 kk∧0≤kk∧kk≤61∧RowKit.Hid (keysP (S.ds.take i)=kk)∧RowKit.Hid (Below W2.heap.size W2 wr)) (fun _ x _=>S.ds.length - (intOf x).toNat)
  case atStart=>exact ⟨0,0,Nat.zero_le _,rfl,rfl,Int.le_refl _,by omega,HK0,HW0⟩
  clear HK0 HW0
  obtain ⟨i,kk,hi,rfl,rfl,hk0,hk1,hkk,hW⟩:=hrel
  have HKR:=Lib.hid (HK2.out.below hW.out)
  obtain ⟨t0,t1,t2,t3⟩:=HKR.out.four
  by_cases hil:i < S.ds.length
  ·have hi2:(i:Int) < (S.ds.length:Int):=by omega
   obtain ⟨b,o,c',ev,hbl,r0,r1,r2⟩:=(HSP.out.later (below_step HB2.out hW.out)).dAt i hil
   cases ev
   have hdk:=dv_ok (HSG.out.d _ (List.getElem_mem hil))
   have HKT:=Lib.hid (keysP_take hil)
   obtain ⟨lo,hlo⟩:∃ x,S.ds[i].lo=x:=⟨_,rfl⟩
   obtain ⟨hi',hhi⟩:∃ x,S.ds[i].hi=x:=⟨_,rfl⟩
   rw [hlo] at r1 hdk HKT
   rw [hhi] at r2 hdk HKT
   rw [hkk.out] at HKT
   have e4:IntKind.i64.wrap (hi' - lo)=hi' - lo:=IntWalk.i64_in _ (by omega)
   have e5:IntKind.i64.wrap (hi' - lo + 1)=hi' - lo + 1:=IntWalk.i64_in _ (by omega)
   have hdr:Below wr.heap.size wr wr.drew:=(Below.refl _ _).drew
   have HWD:=Lib.hid (below_step hW.out hdr)
   clear hlo hhi hkk hbl hdr r0
   have hmx:max kk (hi' - lo + 1)=if kk≤hi' - lo + 1 then hi' - lo + 1 else kk:=by
    rw [Int.max_def]
   have HMX:=Lib.hid hmx
   clear hmx
   go_upto_region 10 with fail
   go_region
   have hm0:0≤max kk (hi' - lo + 1):=Int.le_trans hk0 (Int.le_max_left _ _)
   have hm1:max kk (hi' - lo + 1)≤61:=Int.max_le.2 ⟨hk1,by omega⟩
   go_wp2
   go_roundw
   case rel=>exact ⟨i + 1,max kk (hi' - lo + 1),by omega,by go_num,rfl,hm0,hm1,HKT,HWD⟩
   case measure=>simp [intOf]; omega
  ·have hi2:¬ (i:Int) < (S.ds.length:Int):=by omega
   have hie:i=S.ds.length:=by omega
   have hkk2:=hkk.out
   rw [hie,List.take_length] at hkk2
   obtain ⟨m,hm⟩:∃ m:Int,(S.ss.length:Int) + 1=m:=⟨_,rfl⟩
   have hz0:0≤pn * kk:=Int.mul_nonneg n0 hk0
   have hz1:pn * kk≤3880 * 61:=Int.mul_le_mul (by omega) hk1 hk0 (by omega)
   obtain ⟨z,hz⟩:∃ z,pn * kk=z:=⟨_,rfl⟩
   rw [hz] at hz0 hz1
   have hy0:0≤z * m:=Int.mul_nonneg hz0 (by omega)
   have hy1:z * m≤3880 * 61 * 81:=Int.mul_le_mul hz1 (by omega) (by omega) (by omega)
   obtain ⟨y,hy⟩:∃ y,z * m=y:=⟨_,rfl⟩
   rw [hy] at hy0 hy1
   have e4:IntKind.i64.wrap (pn * kk)=z:=by rw [hz]; exact IntWalk.i64_in _ (by omega)
   have e5:IntKind.i64.wrap ((S.ss.length:Int) + 1)=m:=by rw [hm]; exact IntWalk.i64_in _ (by omega)
   have e6:IntKind.i64.wrap (z * m)=y:=by rw [hy]; exact IntWalk.i64_in _ (by omega)
   have HFW:=Lib.hid (show ¬ 5000 < y→(checkP S).2=0→(pipesP S).1 * keysP S.ds * (S.ss.length + 1)≤5000 from fun h _=>by rw [HPE.out,hkk2]; simp only; rw [hz,hm,hy]; omega)
   have HB9:=Lib.hid (below_step HB2.out hW.out)
   clear hz hm hy hie hkk2 hkk
   by_cases h5:5000 < y
   ·go_wp2
    go_ret
    exact ⟨true,by simp,(fun h=>by cases h),HB9.out⟩
   ·have d5:decide (5000 < y)=false:=decide_eq_false h5
    go_wp2
    go_ret
    exact ⟨false,by simp,(fun _=>⟨HOK.out,HLE.out,HFW.out h5⟩),HB9.out⟩
 ·have d1:decide ((40:Int) < (l.length:Int))=false:=decide_eq_false (by omega)
  have d3:decide ((20100:Int) < (l.length:Int))=false:=decide_eq_false (by omega)
  have HLE:RowKit.Hid (l.length≤40∨20000 < l.length∧l.length≤20100):=Lib.hid (.inl (by omega))
  clear g1
  obtain ⟨u0,u1,u2,u3⟩:=HK1.out.four
  go_wp2_with fail
  refine (HRP.out).mono ?_
  rintro e W2 ⟨rfl,hb2⟩
  have HB2:=Lib.hid (below_step HB1.out hb2)
  have HK2:=Lib.hid (HK1.out.below hb2)
  clear hb2 HRP HK1 HB1 u0 u1 u2 u3
  by_cases hc:(checkP S).2=0
  case neg =>
   have HN:=Lib.hid (show GreatE S l w (.returned (.bool false)) W2 from ⟨false,rfl,fun _=>⟨HOK.out,HLE.out,fun h=>absurd h hc⟩,HB2.out⟩)
   obtain ⟨⟨pn,pe⟩,hpe⟩:∃ q,pipesP S=q:=⟨_,rfl⟩
   have hpe2:pe≠0:=by
    have:=congrArg Prod.snd hpe
    unfold pipesP at this
    rw [if_neg hc] at this
    simp only at this
    rw [← this]
    exact hc
   rw [hpe]
   have q9:(pe == 0)=false:=by simpa using hpe2
   clear hc hpe hpe2
   go_wp2
   go_ret
   exact HN.out
  have hsg:=spGood hc
  have hpe:pipesP S=(cntP S.rs,0):=if_pos hc
  obtain ⟨n0,n1⟩:=cntP_bound hsg.r
  have n2:=hsg.rs
  have n3:=hsg.ss
  have n4:=hsg.ds
  rw [hpe]
  obtain ⟨pn,hpn⟩:∃ pn,cntP S.rs=pn:=⟨_,rfl⟩
  rw [hpn] at hpe n0 n1 ⊢
  have HPE:=Lib.hid hpe
  have HSG:=Lib.hid hsg
  obtain ⟨⟨a1,c1,e1⟩,_,⟨a3,c3,e3⟩,_⟩:=HSP.out.forms
  subst e1 e3
  have HK0:RowKit.Hid (keysP (S.ds.take 0)=0):=Lib.hid rfl
  have HW0:=Lib.hid (Below.refl W2.heap.size W2)
  clear hc hsg hpe hpn
  go_wp2
  go_loopw [7,8] (fun k x wr=>∃ (i:Nat) (kk:Int),i≤S.ds.length∧x = .int .i64 i∧k = .int .i64 kk∧0≤kk∧kk≤61∧RowKit.Hid (keysP (S.ds.take i)=kk)∧RowKit.Hid (Below W2.heap.size W2 wr)) (fun _ x _=>S.ds.length - (intOf x).toNat)
  case atStart=>exact ⟨0,0,Nat.zero_le _,rfl,rfl,Int.le_refl _,by omega,HK0,HW0⟩
  clear HK0 HW0
  obtain ⟨i,kk,hi,rfl,rfl,hk0,hk1,hkk,hW⟩:=hrel
  have HKR:=Lib.hid (HK2.out.below hW.out)
  obtain ⟨t0,t1,t2,t3⟩:=HKR.out.four
  by_cases hil:i < S.ds.length
  ·have hi2:(i:Int) < (S.ds.length:Int):=by omega
   obtain ⟨b,o,c',ev,hbl,r0,r1,r2⟩:=(HSP.out.later (below_step HB2.out hW.out)).dAt i hil
   cases ev
   have hdk:=dv_ok (HSG.out.d _ (List.getElem_mem hil))
   have HKT:=Lib.hid (keysP_take hil)
   obtain ⟨lo,hlo⟩:∃ x,S.ds[i].lo=x:=⟨_,rfl⟩
   obtain ⟨hi',hhi⟩:∃ x,S.ds[i].hi=x:=⟨_,rfl⟩
   rw [hlo] at r1 hdk HKT
   rw [hhi] at r2 hdk HKT
   rw [hkk.out] at HKT
   have e4:IntKind.i64.wrap (hi' - lo)=hi' - lo:=IntWalk.i64_in _ (by omega)
   have e5:IntKind.i64.wrap (hi' - lo + 1)=hi' - lo + 1:=IntWalk.i64_in _ (by omega)
   have hdr:Below wr.heap.size wr wr.drew:=(Below.refl _ _).drew
   have HWD:=Lib.hid (below_step hW.out hdr)
   clear hlo hhi hkk hbl hdr r0
   have hmx:max kk (hi' - lo + 1)=if kk≤hi' - lo + 1 then hi' - lo + 1 else kk:=by
    rw [Int.max_def]
   have HMX:=Lib.hid hmx
   clear hmx
   go_upto_region 10 with fail
   go_region
   have hm0:0≤max kk (hi' - lo + 1):=Int.le_trans hk0 (Int.le_max_left _ _)
   have hm1:max kk (hi' - lo + 1)≤61:=Int.max_le.2 ⟨hk1,by omega⟩
   go_wp2
   go_roundw
   case rel=>exact ⟨i + 1,max kk (hi' - lo + 1),by omega,by go_num,rfl,hm0,hm1,HKT,HWD⟩
   case measure=>simp [intOf]; omega
  ·have hi2:¬ (i:Int) < (S.ds.length:Int):=by omega
   have hie:i=S.ds.length:=by omega
   have hkk2:=hkk.out
   rw [hie,List.take_length] at hkk2
   obtain ⟨m,hm⟩:∃ m:Int,(S.ss.length:Int) + 1=m:=⟨_,rfl⟩
   have hz0:0≤pn * kk:=Int.mul_nonneg n0 hk0
   have hz1:pn * kk≤3880 * 61:=Int.mul_le_mul (by omega) hk1 hk0 (by omega)
   obtain ⟨z,hz⟩:∃ z,pn * kk=z:=⟨_,rfl⟩
   rw [hz] at hz0 hz1
   have hy0:0≤z * m:=Int.mul_nonneg hz0 (by omega)
   have hy1:z * m≤3880 * 61 * 81:=Int.mul_le_mul hz1 (by omega) (by omega) (by omega)
   obtain ⟨y,hy⟩:∃ y,z * m=y:=⟨_,rfl⟩
   rw [hy] at hy0 hy1
   have e4:IntKind.i64.wrap (pn * kk)=z:=by rw [hz]; exact IntWalk.i64_in _ (by omega)
   have e5:IntKind.i64.wrap ((S.ss.length:Int) + 1)=m:=by rw [hm]; exact IntWalk.i64_in _ (by omega)
   have e6:IntKind.i64.wrap (z * m)=y:=by rw [hy]; exact IntWalk.i64_in _ (by omega)
   have HFW:=Lib.hid (show ¬ 5000 < y→(checkP S).2=0→(pipesP S).1 * keysP S.ds * (S.ss.length + 1)≤5000 from fun h _=>by rw [HPE.out,hkk2]; simp only; rw [hz,hm,hy]; omega)
   have HB9:=Lib.hid (below_step HB2.out hW.out)
   clear hz hm hy hie hkk2 hkk
   by_cases h5:5000 < y
   ·go_wp2
    go_ret
    exact ⟨true,by simp,(fun h=>by cases h),HB9.out⟩
   ·have d5:decide (5000 < y)=false:=decide_eq_false h5
    go_wp2
    go_ret
    exact ⟨false,by simp,(fun _=>⟨HOK.out,HLE.out,HFW.out h5⟩),HB9.out⟩
end Go.Proofs.YthhfmppealmblaaGreatDoor
namespace Go.Proofs.YthhfmppealmblaaGreatDoor
theorem upN_dep {l:List Ev} {t u:Int} (h:∀ x∈l,x.1≤t ↔ x.1≤u):upN l t=upN l u:=by
 induction l with
 | nil=>rfl
 | cons x l ih =>
  rw [upN_cons,upN_cons,ih fun y hy=>h y (by simp [hy])]
  have:=h x (by simp)
  by_cases q:x.1≤t
  ·rw [if_pos q,if_pos (this.1 q)]
  ·rw [if_neg q,if_neg (fun k=>q (this.2 k))]
theorem upF_dep {l:List Ev} {t u:Int} (h:∀ x∈l,x.1≤t ↔ x.1≤u):upF l t=upF l u:=by unfold upF; rw [upN_dep h]
theorem any_congr {α:Type} {l:List α} {a b:α→Bool} (h:∀ x∈l,a x=b x):l.any a=l.any b:=by
 induction l with
 | nil=>rfl
 | cons x l ih=>rw [List.any_cons,List.any_cons,h x (by simp),ih fun y hy=>h y (by simp [hy])]
theorem upN_before {l:List Ev} {t:Int} (h:∀ x∈l,t < x.1):upN l t=0:=by
 cases l with
 | nil=>rfl
 | cons x l =>
  have:=h x (by simp)
  rw [upN_cons,if_neg (by omega)]
theorem nonneg_ticks {S:Sp} {l:List Ev} {cls:List Cl} (hE:clsE S l cls=0):∀ u∈ticksC (ticksL [] l) cls,0≤u:=by
 obtain ⟨hR,_,hc⟩:=clsE_ok hE
 intro u hu
 rcases mem_ticksC.1 hu with h | ⟨c,h1,h | h⟩
 ·rcases mem_ticksL.1 h with h | ⟨x,hx,rfl⟩
  ·cases h
  ·exact (hR.nonneg hx).1
 ·have:=clE_to (hc c h1)
  omega
 ·omega
theorem flt_zero {kd:Int→Int} (h:∀ t,kd t=0) (ts:List Int):flt kd 0 ts=[]:=by
 induction ts with
 | nil=>rfl
 | cons t ts ih=>rw [flt,if_pos (h t),ih]
end Go.Proofs.YthhfmppealmblaaGreatDoor
namespace Go.Proofs.YthhfmppealmblaaGreatDoor
open Go.RowKit
theorem row_formS {W:World} {base:Nat} {t:TypeId} {k n:Nat} {v:Value} {xs:List Value} (h:W.ownsRow base t k v n xs):∃ a c,v = .slice a n c:=by
 rcases h.2 with ⟨rfl,rfl⟩ | ⟨g,cap,cur,rfl,_⟩
 ·exact ⟨_,_,rfl⟩
 ·exact ⟨_,_,rfl⟩
theorem row_apartS {W:World} {b b2:Nat} {t t2:TypeId} {k k2 n n2:Nat} {v v2:Value} {xs xs2:List Value} (h:W.ownsRow b t k v n xs) (h2:W.ownsRow b2 t2 k2 v2 n2 xs2) (hne:t≠t2):v.ownBlock=none∨v.ownBlock≠v2.ownBlock:=by
 rcases h.2 with ⟨rfl,_⟩ | ⟨g,cap,cur,rfl,_,hg,_⟩
 ·exact .inl rfl
 ·right
  rcases h2.2 with ⟨rfl,_⟩ | ⟨g2,cap2,cur2,rfl,_,hg2,_⟩
  ·simp [Value.ownBlock]
  ·intro q
   have q2:g=g2:=by simpa [Value.ownBlock] using q
   subst q2
   rw [hg] at hg2
   cases hg2
   exact hne rfl
end Go.Proofs.YthhfmppealmblaaGreatDoor
namespace Go.Proofs.YthhfmppealmblaaGreatDoor
def endS (N:Pp→Bool) (t:Int) (c:Cl):Cl:=if c.2.2 < 0∧N c.1=false then (c.1,c.2.1,t) else c
def newS (all:List Pp) (was N:Pp→Bool) (t:Int):List Cl:=(all.filter fun p=>N p && !was p).map fun p=>(p,t,-1)
def stepS (all:List Pp) (was N:Pp→Bool) (t:Int) (out:List Cl):List Cl:=out.map (endS N t) ++ newS all was N t
def sdS (all:List Pp) (N:Int→Pp→Bool):(Pp→Bool)→List Cl→List Int→List Cl
 | _,out,[]=>out
 | was,out,t :: ts=>sdS all N (N t) (stepS all was (N t) t out) ts
theorem endS_fst (N:Pp→Bool) (t:Int) (c:Cl):(endS N t c).1=c.1:=by unfold endS; split <;> rfl
theorem endS_from (N:Pp→Bool) (t:Int) (c:Cl):(endS N t c).2.1=c.2.1:=by unfold endS; split <;> rfl
theorem mem_newS {all:List Pp} {was N:Pp→Bool} {t:Int} {c:Cl}:c∈newS all was N t ↔ c.1∈all∧N c.1=true∧was c.1=false∧c.2.1=t∧c.2.2 = -1:=by
 unfold newS
 rw [List.mem_map]
 constructor
 ·rintro ⟨p,hp,rfl⟩
  have h:=List.mem_filter.1 hp
  have h2:=h.2
  simp only [Bool.and_eq_true,Bool.not_eq_true'] at h2
  exact ⟨h.1,h2.1,h2.2,rfl,rfl⟩
 ·rintro ⟨h1,h2,h3,h4,h5⟩
  obtain ⟨p,a,b⟩:=c
  simp only at h1 h2 h3 h4 h5
  subst h4 h5
  exact ⟨p,List.mem_filter.2 ⟨h1,by simp [h2,h3]⟩,rfl⟩
structure SdOk (all:List Pp) (T:List Int) (lo:Int) (was:Pp→Bool) (out:List Cl):Prop where
 mem:∀ c∈out,c.1∈all∧c.2.1∈T∧0≤c.2.1∧c.2.1≤lo∧(c.2.2 = -1∨c.2.2∈T∧c.2.1 < c.2.2∧c.2.2≤lo)
 opn:∀ p,was p=true ↔ ∃ c∈out,c.1=p∧c.2.2 = -1
 apart:out.Pairwise fun c d=>c.1=d.1→0≤c.2.2∧c.2.2 < d.2.1
theorem sdOk_start (all:List Pp) (T:List Int) (lo:Int):SdOk all T lo (fun _=>false) []:=⟨(fun c h=>by cases h),(fun p=>by simp),List.Pairwise.nil⟩
theorem SdOk.step {all:List Pp} {T:List Int} {lo t:Int} {was N:Pp→Bool} {out:List Cl} (h:SdOk all T lo was out) (ha:all.Pairwise ppLt) (hlt:lo < t) (h0:0≤t) (ht:t∈T) (hN:∀ p,N p=true→p∈all):SdOk all T t N (stepS all was N t out) where
 mem c hc:=by
  rcases List.mem_append.1 hc with hc | hc
  ·obtain ⟨d,hd,rfl⟩:=List.mem_map.1 hc
   obtain ⟨m1,m2,m3,m4,m5⟩:=h.mem d hd
   unfold endS
   split
   ·exact ⟨m1,m2,m3,by simp only; omega,.inr ⟨ht,by simp only; omega,Int.le_refl _⟩⟩
   ·exact ⟨m1,m2,m3,by omega,m5.imp id fun q=>⟨q.1,q.2.1,by omega⟩⟩
  ·obtain ⟨n1,_,_,n4,n5⟩:=mem_newS.1 hc
   exact ⟨n1,by rw [n4]; exact ht,by omega,by omega,.inl n5⟩
 opn p:=by
  constructor
  ·intro hp
   cases hw:was p with
   | true =>
    obtain ⟨c,hc,e1,e2⟩:=(h.opn p).1 hw
    refine ⟨c,List.mem_append.2 (.inl (List.mem_map.2 ⟨c,hc,?_⟩)),e1,e2⟩
    unfold endS
    rw [if_neg]
    rintro ⟨_,q⟩
    rw [e1,hp] at q
    cases q
   | false=>exact ⟨(p,t,-1),List.mem_append.2 (.inr (mem_newS.2 ⟨hN p hp,hp,hw,rfl,rfl⟩)),rfl,rfl⟩
  ·rintro ⟨c,hc,rfl,e2⟩
   rcases List.mem_append.1 hc with hc | hc
   ·obtain ⟨d,hd,rfl⟩:=List.mem_map.1 hc
    rw [endS_fst]
    unfold endS at e2
    split at e2
    ·simp only at e2
     omega
    ·next q =>
     cases e:N d.1 with
     | true=>rfl
     | false=>exact absurd ⟨by omega,e⟩ q
   ·exact (mem_newS.1 hc).2.1
 apart:=by
  unfold stepS
  rw [List.pairwise_append]
  refine ⟨?_,?_,?_⟩
  ·rw [List.pairwise_map]
   refine h.apart.imp fun {c d} q=>?_
   rw [endS_fst,endS_fst,endS_from]
   intro e
   obtain ⟨q1,q2⟩:=q e
   unfold endS
   rw [if_neg (by omega)]
   exact ⟨q1,q2⟩
  ·unfold newS
   rw [List.pairwise_map]
   refine (ha.sublist List.filter_sublist).imp fun {a b} q e=>?_
   simp only at e
   subst e
   exact absurd q (ppLt_irrefl _)
  ·intro c hc d hd e
   obtain ⟨c',hc',rfl⟩:=List.mem_map.1 hc
   obtain ⟨_,n2,n3,n4,_⟩:=mem_newS.1 hd
   obtain ⟨m1,m2,m3,m4,m5⟩:=h.mem c' hc'
   rw [endS_fst] at e
   unfold endS
   split
   ·next q =>
    rw [e,n2] at q
    exact absurd q.2 (by decide)
   ·rw [n4]
    rcases m5 with m5 | m5
    ·have:=(h.opn c'.1).2 ⟨c',hc',rfl,m5⟩
     rw [e,n3] at this
     cases this
    ·omega
theorem sdS_ok {all:List Pp} {T:List Int} {N:Int→Pp→Bool} (ha:all.Pairwise ppLt) (hN:∀ t p,N t p=true→p∈all):∀ {ts:List Int} {lo:Int} {was:Pp→Bool} {out:List Cl},SdOk all T lo was out→ts.Pairwise (· < ·)→(∀ t∈ts,lo < t∧0≤t∧t∈T)→∃ lo' was',SdOk all T lo' was' (sdS all N was out ts)
 | [],lo,was,out,h,_,_=>⟨lo,was,h⟩
 | t :: ts,lo,was,out,h,hasc,h1=>by
  have ha1:=List.pairwise_cons.1 hasc
  obtain ⟨q1,q2,q3⟩:=h1 t (by simp)
  rw [sdS]
  exact sdS_ok ha hN (h.step ha q1 q2 q3 (hN t)) ha1.2 fun u hu=>⟨ha1.1 u hu,(h1 u (by simp [hu])).2⟩
def atB (N:Int→Pp→Bool) (p:Pp) (t:Int):Bool→List Int→Bool
 | b,[]=>b
 | b,u :: ts=>if u≤t then atB N p t (N u p) ts else b
theorem any_step {all:List Pp} {T:List Int} {lo t u:Int} {was N:Pp→Bool} {out:List Cl} (h:SdOk all T lo was out) (hlt:lo < t) (hN:∀ p,N p=true→p∈all) (p:Pp):(stepS all was N t out).any (fun c=>clB c p u)=if t≤u then N p else out.any fun c=>clB c p u:=by
 unfold stepS
 rw [List.any_append,List.any_map]
 by_cases q:t≤u
 ·rw [if_pos q,Bool.eq_iff_iff,Bool.or_eq_true,List.any_eq_true,List.any_eq_true]
  unfold clB
  simp only [Function.comp,Bool.and_eq_true,Bool.or_eq_true,decide_eq_true_iff]
  constructor
  ·rintro (⟨c,hc,⟨h1,h2⟩,h3⟩ | ⟨c,hc,⟨h1,h2⟩,h3⟩)
   ·obtain ⟨_,_,_,m4,m5⟩:=h.mem c hc
    rw [endS_fst] at h1
    unfold endS at h3
    split at h3
    ·simp only at h3
     omega
    ·next k =>
     cases e:N p with
     | true=>rfl
     | false=>exact absurd ⟨by omega,by rw [h1]; exact e⟩ k
   ·have:=(mem_newS.1 hc).2.1
    rw [h1] at this
    exact this
  ·intro hp
   cases hw:was p with
   | true =>
    obtain ⟨c,hc,e1,e2⟩:=(h.opn p).1 hw
    refine .inl ⟨c,hc,?_⟩
    have:endS N t c=c:=by
     unfold endS
     rw [if_neg]
     rintro ⟨_,k⟩
     rw [e1,hp] at k
     cases k
    rw [this]
    have:=(h.mem c hc).2.2.2.1
    exact ⟨⟨e1,by omega⟩,.inl (by omega)⟩
   | false =>
    refine .inr ⟨(p,t,-1),mem_newS.2 ⟨hN p hp,hp,hw,rfl,rfl⟩,⟨rfl,q⟩,.inl (by show (-1:Int) < 0; omega)⟩
 ·rw [if_neg q,any_congr (b:=fun c=>clB c p u) fun c hc=>?_]
  ·have:(newS all was N t).any (fun c=>clB c p u)=false:=by
    rw [List.any_eq_false]
    intro c hc
    have:=(mem_newS.1 hc).2.2.2.1
    unfold clB
    rw [decide_eq_false (show ¬ c.2.1≤u by omega),Bool.and_false,Bool.false_and]
    exact Bool.false_ne_true
   rw [this,Bool.or_false]
  ·simp only [Function.comp]
   unfold clB
   rw [endS_fst,endS_from]
   congr 1
   unfold endS
   split
   ·next k =>
    rw [decide_eq_true k.1,Bool.true_or,decide_eq_true (show u < t by omega),Bool.or_true]
   ·rfl
theorem sdS_any {all:List Pp} {T:List Int} {N:Int→Pp→Bool} (ha:all.Pairwise ppLt) (hN:∀ t p,N t p=true→p∈all) (p:Pp) (u:Int):∀ {ts:List Int} {lo:Int} {was:Pp→Bool} {out:List Cl},SdOk all T lo was out→ts.Pairwise (· < ·)→(∀ t∈ts,lo < t∧0≤t∧t∈T)→(sdS all N was out ts).any (fun c=>clB c p u)=atB N p u (out.any fun c=>clB c p u) ts
 | [],lo,was,out,_,_,_=>rfl
 | t :: ts,lo,was,out,h,hasc,h1=>by
  have ha1:=List.pairwise_cons.1 hasc
  obtain ⟨q1,q2,q3⟩:=h1 t (by simp)
  have ih:=sdS_any (N:=N) ha hN p u (h.step ha q1 q2 q3 (hN t)) ha1.2 fun v hv=>⟨ha1.1 v hv,(h1 v (by simp [hv])).2⟩
  rw [sdS,ih,any_step h q1 (hN t),atB]
  by_cases q:t≤u
  ·rw [if_pos q,if_pos q]
  ·rw [if_neg q,if_neg q]
   cases ts with
   | nil=>rfl
   | cons v ts =>
    have:=ha1.1 v (by simp)
    rw [atB,if_neg (by omega)]
theorem atB_is {N:Int→Pp→Bool} {T:List Int} (D:∀ t u,(∀ x∈T,x≤t ↔ x≤u)→N t=N u) {p:Pp} {t:Int}:∀ {ts:List Int} {lo:Int},ts.Pairwise (· < ·)→(∀ u∈ts,lo < u)→(∀ x∈T,x≤lo∨x∈ts)→lo≤t→atB N p t (N lo p) ts=N t p
 | [],lo,_,_,h,hl=>by
  rw [atB,D lo t fun x hx=>?_]
  rcases h x hx with h | h
  ·omega
  ·cases h
 | u :: ts,lo,ha,h1,h,hl=>by
  have ha1:=List.pairwise_cons.1 ha
  rw [atB]
  by_cases q:u≤t
  ·rw [if_pos q]
   refine atB_is D ha1.2 ha1.1 (fun x hx=>?_) q
   rcases h x hx with k | k
   ·have:=h1 u (by simp)
    exact .inl (by omega)
   ·rcases List.mem_cons.1 k with rfl | k
    ·exact .inl (Int.le_refl _)
    ·exact .inr k
  ·rw [if_neg q,D lo t fun x hx=>?_]
   rcases h x hx with k | k
   ·omega
   ·have h2:=h1 x k
    rcases List.mem_cons.1 k with rfl | k
    ·omega
    ·have:=ha1.1 x k
     omega
def sndN (B:(Th→Int)→Pp→Bool) (l:List Ev) (t:Int):Pp→Bool:=B (upF l t)
def sndsL (S:Sp) (B:(Th→Int)→Pp→Bool) (l:List Ev):List Cl:=sdS (allFrom 0 S.rs) (sndN B l) (fun _=>false) [] (ticksL [] l)
theorem sndN_all {S:Sp} {B:(Th→Int)→Pp→Bool} (hB:SndIs S B) (hc:(checkP S).2=0) (l:List Ev):∀ t p,sndN B l t p=true→p∈allFrom 0 S.rs:=fun _ _ h=>snd_all (fun _ hx _=>(spGood hc).plays hx) ((hB _ _).1 h)
theorem ticks_in {S:Sp} {l:List Ev} (hR:RecOk S l):∀ t∈ticksL [] l,(-1:Int) < t∧0≤t∧t∈l.map (·.1):=fun t ht=>by
 rcases mem_ticksL.1 ht with h | ⟨x,hx,rfl⟩
 ·cases h
 ·have:=(hR.nonneg hx).1
  exact ⟨by omega,this,List.mem_map.2 ⟨x,hx,rfl⟩⟩
theorem snds_ok {S:Sp} {B:(Th→Int)→Pp→Bool} (hB:SndIs S B) {l:List Ev} (hR:RecOk S l):∃ lo was,SdOk (allFrom 0 S.rs) (l.map (·.1)) lo was (sndsL S B l) :=
 sdS_ok (asc_allFrom _ _) (sndN_all hB hR.sp l) (sdOk_start _ _ (-1)) (asc_ticksL List.Pairwise.nil) (ticks_in hR)
theorem sndN_before {S:Sp} {B:(Th→Int)→Pp→Bool} (hB:SndIs S B) {l:List Ev} {t:Int} (h:∀ x∈l,t < x.1) (p:Pp):sndN B l t p=false:=by
 unfold sndN upF
 rw [upN_before h,show onV (l.take 0)=(fun _=>0) from rfl,snd_zero hB]
theorem snds_any {S:Sp} {B:(Th→Int)→Pp→Bool} (hB:SndIs S B) {l:List Ev} (hR:RecOk S l) (p:Pp) (t:Int):(sndsL S B l).any (fun c=>clB c p t)=B (upF l t) p:=by
 have hasc:(ticksL [] l).Pairwise (· < ·):=asc_ticksL List.Pairwise.nil
 have h1:=sdS_any (N:=sndN B l) (asc_allFrom 0 S.rs) (sndN_all hB hR.sp l) p t (sdOk_start _ (l.map (·.1)) (-1)) hasc (ticks_in hR)
 have hlo:∀ u∈ticksL [] l,min (-1) t < u:=fun u hu=>by have:=(ticks_in hR u hu).2.1; omega
 have h2:=atB_is (N:=sndN B l) (T:=l.map (·.1)) (fun t u h=>by unfold sndN; rw [upF_dep fun x hx=>h _ (List.mem_map.2 ⟨x,hx,rfl⟩)]) (p:=p) (t:=t) (lo:=min (-1) t) hasc hlo (fun x hx=>by
  obtain ⟨y,hy,rfl⟩:=List.mem_map.1 hx
  exact .inr (mem_ticksL.2 (.inr ⟨y,hy,rfl⟩))) (by omega)
 rw [sndN_before hB fun x hx=>hlo _ (mem_ticksL.2 (.inr ⟨x,hx,rfl⟩))] at h2
 unfold sndsL
 rw [h1]
 exact h2
theorem tick_nonneg {S:Sp} {l:List Ev} (hR:RecOk S l) {t:Int} (h:t∈l.map (·.1)):0≤t∧t≤100000000:=by
 obtain ⟨x,hx,rfl⟩:=List.mem_map.1 h
 exact hR.nonneg hx
theorem snds_good {S:Sp} {B:(Th→Int)→Pp→Bool} (hB:SndIs S B) {l:List Ev} (hR:RecOk S l):∀ c∈sndsL S B l,clE S c=0:=by
 obtain ⟨lo,was,h⟩:=snds_ok hB hR
 intro c hc
 obtain ⟨m1,m2,m3,m4,m5⟩:=h.mem c hc
 have h1:=tick_nonneg hR m2
 unfold clE
 rw [if_pos m1,if_pos]
 refine ⟨m3,h1.2,?_⟩
 rcases m5 with m5 | ⟨m5,m6,_⟩
 ·exact .inl m5
 ·exact .inr ⟨m6,(tick_nonneg hR m5).2⟩
theorem clsE_is {S:Sp} {l:List Ev} {cls:List Cl} (hE:audE S l=0) (hl:cls.length≤20000) (h:∀ c∈cls,clE S c=0):clsE S l cls=0:=by
 unfold clsE
 rw [if_pos hE,if_neg (by omega),fst0_none.2]
 intro i hi
 unfold clsF
 rw [getD_at hi]
 exact h _ (List.getElem_mem hi)
theorem flatMap_nil' {α β:Type} {g:α→List β}:∀ {l:List α},(∀ x∈l,g x=[])→l.flatMap g=[]
 | [],_=>rfl
 | x :: l,h=>by rw [List.flatMap_cons,h x (by simp),List.nil_append,flatMap_nil' fun y hy=>h y (by simp [hy])]
theorem faP_nil {m:List Fa} {c:Int} (h:FaP [] m c):m=[]∧c=0:=by
 rcases h with ⟨h,_⟩ | ⟨_,h,_,e⟩
 ·simp at h
 ·exact ⟨List.Perm.eq_nil h,e⟩
theorem faP_one {x:Fa} {m:List Fa} {c:Int} (h:FaP [x] m c):m=[x]∧c=0:=by
 rcases h with ⟨h,_⟩ | ⟨_,h,_,e⟩
 ·simp at h
 ·exact ⟨List.perm_singleton.1 h,e⟩
theorem true_none {S:Sp} {B:(Th→Int)→Pp→Bool} (hB:SndIs S B) {l:List Ev} (hE:audE S l=0) (hlen:(sndsL S B l).length≤20000) {m:List Fa} {c:Int} (h:ClP S B l (sndsL S B l) m c):m=[]∧c=0:=by
 have hR:=audE_ok hE
 have hz:=clsE_is hE hlen (snds_good hB hR)
 rcases h with ⟨h0,_⟩ | ⟨_,h⟩
 ·exact absurd hz h0
 ·have:faCl S B l (sndsL S B l)=[]:=by
   unfold faCl faAll
   refine flatMap_nil' fun p _=>?_
   rw [flt_zero fun t=>?_]
   ·rfl
   ·unfold kdCl
    rw [snds_any hB hR]
    cases B (upF l t) p <;> rfl
  rw [this] at h
  exact faP_nil h
theorem flt_ind {kd:Int→Int} {a b:Int} (h:∀ t,kd t=if a≤t∧(b < 0∨t < b) then 1 else 0) (hab:b = -1∨a < b):∀ {ts:List Int},ts.Pairwise (· < ·)→(∀ t∈ts,0≤t)→(a∈ts→(b = -1∨b∈ts)→flt kd 0 ts=[(1,a,b)])∧((∀ t∈ts,a < t)→(b = -1∨b∈ts)→flt kd 1 ts=[]∧nxt kd 1 ts=b)∧((∀ t∈ts,a < t)→(∀ t∈ts,0≤b∧b < t)→flt kd 0 ts=[])
 | [],_,_=>⟨(fun h=>by cases h),(fun _ h=>by rcases h with rfl | h; exact ⟨rfl,rfl⟩; cases h),fun _ _=>rfl⟩
 | t :: ts,hasc,h0=>by
  have ha1:=List.pairwise_cons.1 hasc
  have h00:=h0 t (by simp)
  obtain ⟨i1,i2,i3⟩:=flt_ind (ts:=ts) h hab ha1.2 fun u hu=>h0 u (by simp [hu])
  have hk:=h t
  refine ⟨fun hta htb=>?_,fun hta htb=>?_,fun hta htb=>?_⟩
  ·rcases List.mem_cons.1 hta with rfl | hta
   ·have e:kd a=1:=by rw [hk,if_pos]; omega
    have hb2:b = -1∨b∈ts:=by
     rcases htb with q | q
     ·exact .inl q
     ·rcases List.mem_cons.1 q with rfl | q
      ·omega
      ·exact .inr q
    obtain ⟨j1,j2⟩:=i2 ha1.1 hb2
    rw [flt,e,if_neg (by decide),if_neg (by decide),j1,j2]
   ·have:=ha1.1 a hta
    have e:kd t=0:=by rw [hk,if_neg]; omega
    have hb2:b = -1∨b∈ts:=by
     rcases htb with q | q
     ·exact .inl q
     ·rcases List.mem_cons.1 q with rfl | q
      ·omega
      ·exact .inr q
    rw [flt,if_pos e,i1 hta hb2]
  ·have hat:=hta t (by simp)
   by_cases q:b=t
   ·subst q
    have e:kd b=0:=by rw [hk,if_neg]; omega
    rw [flt,nxt,e,if_neg (by decide),if_pos rfl,if_neg (by decide)]
    exact ⟨i3 (fun u hu=>hta u (by simp [hu])) fun u hu=>⟨h00,ha1.1 u hu⟩,rfl⟩
   ·have hb2:b = -1∨b∈ts:=by
     rcases htb with k | k
     ·exact .inl k
     ·rcases List.mem_cons.1 k with k | k
      ·exact absurd k q
      ·exact .inr k
    have hlt:b < 0∨t < b:=by
     rcases hb2 with k | k
     ·omega
     ·have:=ha1.1 b k; omega
    have e:kd t=1:=by rw [hk,if_pos ⟨by omega,hlt⟩]
    obtain ⟨j1,j2⟩:=i2 (fun u hu=>hta u (by simp [hu])) hb2
    rw [flt,nxt,e,if_pos rfl,if_pos rfl]
    exact ⟨j1,j2⟩
  ·have hat:=hta t (by simp)
   have hbt:=htb t (by simp)
   have e:kd t=0:=by rw [hk,if_neg]; omega
   rw [flt,if_pos e]
   exact i3 (fun u hu=>hta u (by simp [hu])) fun u hu=>htb u (by simp [hu])
theorem flatMap_one {β:Type} {g:Pp→List β} {p:Pp}:∀ {l:List Pp},l.Pairwise ppLt→p∈l→(∀ q∈l,q≠p→g q=[])→l.flatMap g=g p
 | [],_,h,_=>by cases h
 | q :: l,ha,h,hg=>by
  have ha1:=List.pairwise_cons.1 ha
  rw [List.flatMap_cons]
  by_cases e:q=p
  ·subst e
   rw [flatMap_nil',List.append_nil]
   intro x hx
   exact hg x (by simp [hx]) fun e=>by subst e; exact ppLt_irrefl _ (ha1.1 _ hx)
  ·rw [hg q (by simp) e,List.nil_append]
   rcases List.mem_cons.1 h with h | h
   ·exact absurd h.symm e
   ·exact flatMap_one ha1.2 h fun x hx=>hg x (by simp [hx])
theorem true_one {S:Sp} {B:(Th→Int)→Pp→Bool} (hB:SndIs S B) {l:List Ev} (hE:audE S l=0) (hlen:(sndsL S B l).length≤20000) {k:Nat} (hk:k < (sndsL S B l).length) {m:List Fa} {c:Int} (h:ClP S B l ((sndsL S B l).take k ++ (sndsL S B l).drop (k + 1)) m c):m=[(1,(sndsL S B l)[k].1,(sndsL S B l)[k].2.1,(sndsL S B l)[k].2.2)]∧c=0:=by
 have hR:=audE_ok hE
 obtain ⟨lo,was,hok⟩:=snds_ok hB hR
 have hany:=snds_any hB hR
 have hgood:=snds_good hB hR
 generalize sndsL S B l=R at *
 have hsub:∀ c∈R.take k ++ R.drop (k + 1),c∈R:=fun c hc=>by
  rcases List.mem_append.1 hc with hc | hc
  ·exact List.mem_of_mem_take hc
  ·exact List.mem_of_mem_drop hc
 have hz:=clsE_is (cls:=R.take k ++ R.drop (k + 1)) hE (by rw [List.length_append,List.length_take,List.length_drop]; omega) fun c hc=>hgood c (hsub c hc)
 obtain ⟨x,hx⟩:∃ x,R[k]=x:=⟨_,rfl⟩
 rw [hx]
 have hxm:x∈R:=by rw [← hx]; exact List.getElem_mem hk
 obtain ⟨m1,m2,m3,m4,m5⟩:=hok.mem x hxm
 have hsplit:R=R.take k ++ x :: R.drop (k + 1):=by rw [← hx,List.getElem_cons_drop,List.take_append_drop]
 have hap:=hok.apart
 rw [hsplit,List.pairwise_append,List.pairwise_cons] at hap
 obtain ⟨_,⟨a2,_⟩,a3⟩:=hap
 rcases h with ⟨h0,_⟩ | ⟨_,h⟩
 ·exact absurd hz h0
 ·have hall:∀ p t,R.any (fun c=>clB c p t)=((R.take k ++ R.drop (k + 1)).any (fun c=>clB c p t) || clB x p t):=fun p t=>by
   conv=>lhs; rw [hsplit]
   rw [List.any_append,List.any_cons,List.any_append,Bool.or_left_comm,Bool.or_comm]
  have hoth:∀ t,clB x x.1 t=true→(R.take k ++ R.drop (k + 1)).any (fun c=>clB c x.1 t)=false:=fun t ht=>by
   rw [List.any_eq_false]
   intro c hc hq
   unfold clB at ht hq
   simp only [Bool.and_eq_true,Bool.or_eq_true,decide_eq_true_iff] at ht hq
   rcases List.mem_append.1 hc with hc | hc
   ·have:=a3 c hc x (by simp) hq.1.1
    omega
   ·have:=a2 c hc hq.1.1.symm
    omega
  have hkd:∀ p t,kdCl B l (R.take k ++ R.drop (k + 1)) p t=if p=x.1∧clB x x.1 t=true then 1 else 0:=fun p t=>by
   unfold kdCl
   rw [← hany p t,hall]
   by_cases e:p=x.1
   ·subst e
    cases hq:clB x x.1 t with
    | true=>rw [hoth t hq]; simp [kdRef]
    | false=>rw [if_neg (by simp)]; cases ((R.take k ++ R.drop (k + 1)).any fun c=>clB c x.1 t) <;> rfl
   ·rw [if_neg (fun q=>e q.1)]
    have:clB x p t=false:=by
     unfold clB
     rw [decide_eq_false (fun q=>e q.symm),Bool.false_and,Bool.false_and]
    rw [this]
    cases ((R.take k ++ R.drop (k + 1)).any fun c=>clB c p t) <;> rfl
  have hasc:(ticksC (ticksL [] l) (R.take k ++ R.drop (k + 1))).Pairwise (· < ·):=asc_ticksC (asc_ticksL List.Pairwise.nil)
  have hin:∀ t∈l.map (·.1),t∈ticksC (ticksL [] l) (R.take k ++ R.drop (k + 1)):=fun t ht=>by
   obtain ⟨y,hy,rfl⟩:=List.mem_map.1 ht
   exact mem_ticksC.2 (.inl (mem_ticksL.2 (.inr ⟨y,hy,rfl⟩)))
  have:faCl S B l (R.take k ++ R.drop (k + 1))=[(1,x.1,x.2.1,x.2.2)]:=by
   unfold faCl faAll
   rw [flatMap_one (asc_allFrom _ _) m1 fun q _ hq=>?_]
   ·have hi:=(flt_ind (kd:=kdCl B l (R.take k ++ R.drop (k + 1)) x.1) (a:=x.2.1) (b:=x.2.2) (fun t=>by
     rw [hkd]
     have:clB x x.1 t=true ↔ x.2.1≤t∧(x.2.2 < 0∨t < x.2.2):=by
      unfold clB
      simp
     by_cases q:x.2.1≤t∧(x.2.2 < 0∨t < x.2.2)
     ·rw [if_pos ⟨rfl,this.2 q⟩,if_pos q]
     ·rw [if_neg (fun k=>q (this.1 k.2)),if_neg q]) (by omega) hasc (nonneg_ticks hz)).1 (hin _ m2) (by
      rcases m5 with m5 | m5
      ·exact .inl m5
      ·exact .inr (hin _ m5.1))
    rw [hi]
    rfl
   ·rw [flt_zero fun t=>?_]
    ·rfl
    ·rw [hkd,if_neg (fun k=>hq k.1)]
  rw [this] at h
  exact faP_one h
end Go.Proofs.YthhfmppealmblaaGreatDoor
namespace Go.Proofs.YthhfmppealmblaaGreatDoor
theorem tks_same {l m:List Int} (hl:l.Pairwise (· < ·)) (hm:m.Pairwise (· < ·)) (h:∀ x,x∈l ↔ x∈m):l=m:=lt_same (lt:=fun a b=>a < b) (fun a h=>by omega) (fun a b h=>by omega) hl hm h
end Go.Proofs.YthhfmppealmblaaGreatDoor
namespace Go.Proofs.YthhfmppealmblaaGreatDoor
def wasN (N:Int→Pp→Bool) (was:Pp→Bool) (ts:List Int):Pp→Bool:=match ts.getLast? with
 | none=>was
 | some u=>N u
theorem wasN_snoc (N:Int→Pp→Bool) (was:Pp→Bool) (ts:List Int) (t:Int):wasN N was (ts ++ [t])=N t:=by
 unfold wasN
 rw [List.getLast?_concat]
theorem wasN_cons (N:Int→Pp→Bool) (was:Pp→Bool) (t:Int) (ts:List Int):wasN N was (t :: ts)=wasN N (N t) ts:=by
 unfold wasN
 cases ts with
 | nil=>rfl
 | cons u ts=>rw [List.getLast?_cons_cons,List.getLast?_eq_some_getLast (List.cons_ne_nil u ts)]
theorem sdS_snoc {all:List Pp} {N:Int→Pp→Bool} {t:Int}:∀ {was:Pp→Bool} {out:List Cl} {ts:List Int},sdS all N was out (ts ++ [t])=stepS all (wasN N was ts) (N t) t (sdS all N was out ts)
 | was,out,[]=>rfl
 | was,out,u :: ts=>by rw [List.cons_append,sdS,sdS,sdS_snoc,wasN_cons]
theorem sdS_take {all:List Pp} {N:Int→Pp→Bool} {was:Pp→Bool} {ts:List Int} {i:Nat} (h:i < ts.length):sdS all N was [] (ts.take (i + 1))=stepS all (wasN N was (ts.take i)) (N ts[i]) ts[i] (sdS all N was [] (ts.take i)):=by
 rw [List.take_succ_eq_append_getElem h,sdS_snoc]
theorem sdS_len {all:List Pp} {N:Int→Pp→Bool}:∀ {ts:List Int} {was:Pp→Bool} {out:List Cl},out.length≤(sdS all N was out ts).length
 | [],_,_=>Nat.le_refl _
 | t :: ts,was,out=>by
  rw [sdS]
  have h1:=sdS_len (all:=all) (N:=N) (ts:=ts) (was:=N t) (out:=stepS all was (N t) t out)
  have h2:out.length≤(stepS all was (N t) t out).length:=by
   unfold stepS
   rw [List.length_append,List.length_map]
   omega
  omega
theorem sdS_len_take {all:List Pp} {N:Int→Pp→Bool} {was:Pp→Bool} {ts:List Int} {i:Nat}:(sdS all N was [] (ts.take i)).length≤(sdS all N was [] ts).length:=by
 induction ts generalizing i was with
 | nil=>simp
 | cons t ts ih =>
  cases i with
  | zero=>simp [sdS]
  | succ i =>
   have key:∀ (ts:List Int) (i:Nat) (was:Pp→Bool) (out:List Cl),(sdS all N was out (ts.take i)).length≤(sdS all N was out ts).length:=by
    intro ts
    induction ts with
    | nil=>intro i was out; rw [List.take_nil]; exact Nat.le_refl _
    | cons u ts ih2 =>
     intro i was out
     cases i with
     | zero=>rw [List.take_zero]; exact sdS_len
     | succ i=>rw [List.take_succ_cons,sdS,sdS]; exact ih2 i _ _
   exact key (t :: ts) (i + 1) was []
theorem newS_is {all:List Pp} {was N:Pp→Bool} {L M:List Pp} (hL:L=all.filter was) (hM:M=all.filter N) (t:Int):newS all was N t=(M.filter fun p=>decide (p ∉ L)).map fun p=>(p,t,-1):=by
 subst hL hM
 unfold newS
 rw [List.filter_filter]
 congr 1
 refine List.filter_congr fun p hp=>?_
 rw [Bool.eq_iff_iff,Bool.and_eq_true,Bool.and_eq_true,decide_eq_true_iff,List.mem_filter,Bool.not_eq_true']
 constructor
 ·rintro ⟨h1,h2⟩
  exact ⟨fun q=>by rw [h2] at q; exact absurd q.2 (by decide),h1⟩
 ·rintro ⟨h1,h2⟩
  refine ⟨h2,?_⟩
  cases e:was p with
  | false=>rfl
  | true=>exact absurd ⟨hp,e⟩ h1
theorem endS_yes {N:Pp→Bool} {t:Int} {c:Cl} (h1:c.2.2 < 0) (h2:N c.1=false):endS N t c=(c.1,c.2.1,t):=by unfold endS; rw [if_pos ⟨h1,h2⟩]
theorem endS_no {N:Pp→Bool} {t:Int} {c:Cl} (h:¬ (c.2.2 < 0∧N c.1=false)):endS N t c=c:=by unfold endS; rw [if_neg h]
def endK (N:Pp→Bool) (t:Int) (out:List Cl) (k:Nat):List Cl:=(out.take k).map (endS N t) ++ out.drop k
theorem endK_len (N:Pp→Bool) (t:Int) (out:List Cl) (k:Nat):(endK N t out k).length=out.length:=by
 unfold endK
 rw [List.length_append,List.length_map,List.length_take,List.length_drop]
 omega
theorem endK_all (N:Pp→Bool) (t:Int) (out:List Cl):endK N t out out.length=out.map (endS N t):=by
 unfold endK
 rw [List.take_length,List.drop_length,List.append_nil]
theorem endK_at {N:Pp→Bool} {t:Int} {out:List Cl} {k:Nat} (h:k < out.length) (h2:k < (endK N t out k).length):(endK N t out k)[k]=out[k]:=by
 have e:(endK N t out k)[k]?=some out[k]:=by
  unfold endK
  rw [List.getElem?_append_right (by rw [List.length_map,List.length_take]; omega),List.length_map,List.length_take,List.getElem?_drop,show k + (k - min k out.length)=k by omega,List.getElem?_eq_getElem h]
 rw [List.getElem?_eq_getElem h2] at e
 exact Option.some.inj e
theorem endK_next {N:Pp→Bool} {t:Int} {out:List Cl} {k:Nat} (h:k < out.length):endK N t out (k + 1)=(endK N t out k).set k (endS N t out[k]):=by
 unfold endK
 rw [List.take_succ_eq_append_getElem h,List.map_append,List.map_cons,List.map_nil,List.append_assoc,List.singleton_append]
 have e:(out.take k).map (endS N t) ++ out.drop k=(out.take k).map (endS N t) ++ out[k] :: out.drop (k + 1):=by rw [List.getElem_cons_drop]
 rw [e,List.set_append_right _ _ (by rw [List.length_map,List.length_take]; omega)]
 simp only [List.length_map,List.length_take]
 rw [show k - min k out.length=0 by omega,List.set_cons_zero]
theorem endK_same {N:Pp→Bool} {t:Int} {out:List Cl} {k:Nat} (h:k < out.length) (he:endS N t out[k]=out[k]):endK N t out (k + 1)=endK N t out k:=by
 have h2:k < (endK N t out k).length:=by rw [endK_len]; exact h
 rw [endK_next h,he,← endK_at h h2,List.set_getElem_self]
theorem ticks_one {l:List Ev} {i k:Nat} (hi:i < l.length) (hb:∀ j (hj:j < l.length),j < i→l[j].1 < l[i].1) (hik:i < k) (hk:k≤l.length) (hs:∀ j (hj:j < l.length),i≤j→j < k→l[j].1=l[i].1):ticksL [] (l.take k)=ticksL [] (l.take i) ++ [l[i].1]:=by
 refine tks_same (asc_ticksL List.Pairwise.nil) ?_ fun t=>?_
 ·rw [List.pairwise_append]
  refine ⟨asc_ticksL List.Pairwise.nil,by simp,fun a hA b hB=>?_⟩
  rw [List.mem_singleton] at hB
  subst hB
  rcases mem_ticksL.1 hA with h | ⟨x,hx,rfl⟩
  ·cases h
  ·obtain ⟨j,hj,rfl⟩:=List.getElem_of_mem hx
   rw [List.length_take] at hj
   rw [List.getElem_take]
   exact hb j (by omega) (by omega)
 ·rw [mem_ticksL,List.mem_append,mem_ticksL,List.mem_singleton]
  constructor
  ·rintro (h | ⟨x,hx,rfl⟩)
   ·cases h
   ·obtain ⟨j,hj,rfl⟩:=List.getElem_of_mem hx
    rw [List.length_take] at hj
    rw [List.getElem_take]
    by_cases q:j < i
    ·exact .inl (.inr ⟨l[j],List.mem_iff_getElem.2 ⟨j,by rw [List.length_take]; omega,by rw [List.getElem_take]⟩,rfl⟩)
    ·exact .inr (hs j (by omega) (by omega) (by omega))
  ·rintro ((h | ⟨x,hx,rfl⟩) | rfl)
   ·cases h
   ·obtain ⟨j,hj,rfl⟩:=List.getElem_of_mem hx
    rw [List.length_take] at hj
    rw [List.getElem_take]
    exact .inr ⟨l[j],List.mem_iff_getElem.2 ⟨j,by rw [List.length_take]; omega,by rw [List.getElem_take]⟩,rfl⟩
   ·exact .inr ⟨l[i],List.mem_iff_getElem.2 ⟨i,by rw [List.length_take]; omega,by rw [List.getElem_take]⟩,rfl⟩
end Go.Proofs.YthhfmppealmblaaGreatDoor
namespace Go.Proofs.YthhfmppealmblaaGreatDoor
open Go.RowKit
set_option maxRecDepth 100000 in
set_option maxHeartbeats 6400000 in
theorem ticks31_any (l:List Ev) (vl:Value) (w:World) (hlv:ARd w vl 5 (l.map evC)) (hl:l.length≤50000) (ha:Asc l) (ht:∀ x∈l,x.1≤100000000) :
  Calls Tryz.prog 53 #[vl,.slice none 0 0] w (fun e w'=>∃ v,e = .returned v∧w'.ownsRow w.heap.size 2 1 v (ticksL [] l).length (iCs (ticksL [] l))∧Below w.heap.size w w'):=by
 obtain ⟨i0,hi0,hz0,hz1,hz2⟩:=info_parts int_info
 obtain ⟨al,cl,rfl⟩:=hlv.evForm
 have HL:=Lib.hid hlv
 have HA:=Lib.hid ha
 have HTK:=Lib.hid ht
 have HR0:=Lib.hid (show w.ownsRow w.heap.size 2 1 (.slice none 0 0) (ticksL [] (l.take 0)).length (iCs (ticksL [] (l.take 0))) from World.ownsRow_nil _ _ _ _)
 have HB0:=Lib.hid (Below.refl w.heap.size w)
 have HE0:=Lib.hid (show ∀ j (hj:j < l.length) (h0:0 < l.length),j < 0→l[j].1 < (l.getD 0 ev0).1 from fun j _ _ h=>absurd h (Nat.not_lt_zero j))
 clear hlv ha ht
 go_enter Tryz.func53,Tryz.ntmps53
 go_wp2
 go_loopw [5,6,7] (fun v x y wr=>∃ i:Nat,i≤l.length∧x = .int .i64 i∧y = .int .i64 0∧RowKit.Hid (wr.ownsRow w.heap.size 2 1 v (ticksL [] (l.take i)).length (iCs (ticksL [] (l.take i))))∧RowKit.Hid (∀ j (hj:j < l.length),j < i→∀ hi:i < l.length,l[j].1 < l[i].1)∧RowKit.Hid (Below w.heap.size w wr)) (fun _ x _ _=>l.length - (intOf x).toNat)
 case atStart=>exact ⟨0,Nat.zero_le _,rfl,rfl,HR0,Lib.hid (fun j _ h=>absurd h (Nat.not_lt_zero j)),HB0⟩
 clear HR0 HB0 HE0
 obtain ⟨i,hi,rfl,rfl,hrow,hE,hB⟩:=hrel
 by_cases hil:i < l.length
 ·have hi2:(i:Int) < (l.length:Int):=by omega
  have d1:decide ((i:Int) < (l.length:Int))=true:=decide_eq_true hi2
  obtain ⟨b,o,c',ev,hbl,k0,_,_,_,_⟩:=(HL.out.later hB.out).evAt i hil
  cases ev
  have htk:=HTK.out _ (List.getElem_mem hil)
  obtain ⟨tk,htk2⟩:∃ z,l[i].1=z:=⟨_,rfl⟩
  rw [htk2] at k0 htk
  have HTI:=Lib.hid htk2
  have hmin:min (100000000:Int) tk=tk:=by omega
  have HL2:=Lib.hid (show ∀ j (hj:j < l.length),i≤j→j < i→l[j].1=tk from fun j hj h1 h2=>absurd h2 (by omega))
  rename World=>W1
  have HB1:=Lib.hid (Below.refl W1.heap.size W1)
  clear htk2
  go_wp2
  go_loopw [6] (fun x wr=>∃ k:Nat,i≤k∧k≤l.length∧x = .int .i64 k∧RowKit.Hid (∀ j (hj:j < l.length),i≤j→j < k→l[j].1=tk)∧RowKit.Hid (Below W1.heap.size W1 wr)) (fun x _=>l.length - (intOf x).toNat)
  case atStart=>exact ⟨i,Nat.le_refl _,hi,rfl,HL2,HB1⟩
  clear HL2 HB1
  obtain ⟨k,hik,hk,rfl,hS,hC⟩:=hrel
  have HNX:=Lib.hid (fun (h:i < k)=>ticks_one hil (fun j hj hji=>hE.out j hj hji hil) h hk (fun j hj h1 h2=>by rw [hS.out j hj h1 h2,HTI.out]))
  have hsz:w.heap.size≤wr.heap.size:=Nat.le_trans hB.out.size hC.out.size
  have hlen:=len_ticksL [] (l.take i)
  rw [List.length_take,List.length_nil] at hlen
  have HRW:=Lib.hid (row_later hrow.out hC.out)
  have HBW:=Lib.hid (below_step hB.out hC.out)
  by_cases hkl:k < l.length
  ·have hk2:(k:Int) < (l.length:Int):=by omega
   have e1:decide ((k:Int) < (l.length:Int))=true:=decide_eq_true hk2
   obtain ⟨b2,o2,c2',ev2,hbl2,r0,_,_,_,_⟩:=(HL.out.later HBW.out).evAt k hkl
   cases ev2
   obtain ⟨tj,htj⟩:∃ z,l[k].1=z:=⟨_,rfl⟩
   rw [htj] at r0
   have HTJ:=Lib.hid htj
   clear htj
   by_cases hle:tj≤tk
   ·have e2:decide (tj≤tk)=true:=decide_eq_true hle
    have HS2:=Lib.hid (show ∀ j (hj:j < l.length),i≤j→j < k + 1→l[j].1=tk from fun j hj h1 h2=>by
     by_cases q:j < k
     ·exact hS.out j hj h1 q
     ·have:j=k:=by omega
      subst this
      have h3:=HA.out i j hil hj h1
      rw [HTI.out,HTJ.out] at h3
      rw [HTJ.out]
      omega)
    clear hle hS HNX k0
    go_wp2
    go_roundw
    case rel=>exact ⟨k + 1,by omega,by omega,by go_num,HS2,hC⟩
    case measure=>simp [intOf]; omega
   ·have e2:decide (tj≤tk)=false:=decide_eq_false hle
    have hik2:i < k:=by
     rcases Nat.lt_or_ge i k with q | q
     ·exact q
     ·have:k=i:=by omega
      subst this
      exact absurd (by rw [← HTJ.out,← HTI.out]; exact Int.le_refl _) hle
    have HN:=Lib.hid (HNX.out hik2)
    rw [HTI.out] at HN
    have HE2:=Lib.hid (show ∀ j (hj:j < l.length),j < k→∀ hk:k < l.length,l[j].1 < l[k].1 from fun j hj h1 hk=>by
     rw [HTJ.out]
     by_cases q:j < i
     ·have:=hE.out j hj q hil
      rw [HTI.out] at this
      omega
     ·rw [hS.out j hj (by omega) h1]
      omega)
    obtain ⟨T,hT⟩:∃ T,ticksL [] (l.take i)=T:=⟨_,rfl⟩
    rw [hT] at HN HRW hlen
    clear hle hS HNX k0 hT hrow hE hB hC
    go_wp2
    go_loop [7] (fun y=>y = .int .i64 0) (fun _=>0)
    case atStart=>rfl
    obtain rfl:=hrel
    go_wp2_with (at_builtin; refine wpList_append_lies _ rfl _ _ 39 rfl w.heap.size 2 i0 _ 1 8 Tryz.underlying39 hi0 hz0 hz1 hz2 rfl (by omega) _ _ _ rfl (HRW.out.alloc _) ⟨wr.heap.size,0,none⟩ 1 1 [.int .i64 tk] rfl rfl (World.news_of_block (cs:=#[.int .i64 tk]) (t:=2) (fr:=(0,0)) (heap_alloc_new wr _)) (by simp [Value.oneCell']) (by omega) (by unfold maxLen; omega) (by omega) (by simp; omega) (wr.heap.size + 1) (by simp) ?_; intro gg cap w3 hown3 hgrow hat3 hlt3)
    have HP:=Lib.hid (show w3.ownsRow w.heap.size 2 1 (.slice (some ⟨gg,0,none⟩) (T.length + 1) cap) (ticksL [] (l.take k)).length (iCs (ticksL [] (l.take k))) by rw [HN.out,iCs_snoc,List.length_append,List.length_singleton]; exact hown3)
    have HB3:=Lib.hid (push_low HBW.out HRW.out hgrow)
    clear hown3 hgrow hat3 hlt3
    go_wp2
    go_roundw
    case rel=>exact ⟨k,hk,by go_num,rfl,HP,HE2,HB3⟩
    case measure=>simp [intOf]; omega
  ·have hk2:¬ (k:Int) < (l.length:Int):=by omega
   have e1:decide ((k:Int) < (l.length:Int))=false:=decide_eq_false hk2
   have hik2:i < k:=by omega
   have HN:=Lib.hid (HNX.out hik2)
   rw [HTI.out] at HN
   have HE2:=Lib.hid (show ∀ j (hj:j < l.length),j < k→∀ hk:k < l.length,l[j].1 < l[k].1 from fun j hj h1 hk=>absurd hk hkl)
   obtain ⟨T,hT⟩:∃ T,ticksL [] (l.take i)=T:=⟨_,rfl⟩
   rw [hT] at HN HRW hlen
   clear hS HNX k0 hT hrow hE hB hC
   go_wp2
   go_loop [7] (fun y=>y = .int .i64 0) (fun _=>0)
   case atStart=>rfl
   obtain rfl:=hrel
   go_wp2_with (at_builtin; refine wpList_append_lies _ rfl _ _ 39 rfl w.heap.size 2 i0 _ 1 8 Tryz.underlying39 hi0 hz0 hz1 hz2 rfl (by omega) _ _ _ rfl (HRW.out.alloc _) ⟨wr.heap.size,0,none⟩ 1 1 [.int .i64 tk] rfl rfl (World.news_of_block (cs:=#[.int .i64 tk]) (t:=2) (fr:=(0,0)) (heap_alloc_new wr _)) (by simp [Value.oneCell']) (by omega) (by unfold maxLen; omega) (by omega) (by simp; omega) (wr.heap.size + 1) (by simp) ?_; intro gg cap w3 hown3 hgrow hat3 hlt3)
   have HP:=Lib.hid (show w3.ownsRow w.heap.size 2 1 (.slice (some ⟨gg,0,none⟩) (T.length + 1) cap) (ticksL [] (l.take k)).length (iCs (ticksL [] (l.take k))) by rw [HN.out,iCs_snoc,List.length_append,List.length_singleton]; exact hown3)
   have HB3:=Lib.hid (push_low HBW.out HRW.out hgrow)
   clear hown3 hgrow hat3 hlt3
   go_wp2
   go_roundw
   case rel=>exact ⟨k,hk,by go_num,rfl,HP,HE2,HB3⟩
   case measure=>simp [intOf]; omega
 ·have hi2:¬ (i:Int) < (l.length:Int):=by omega
  have d1:decide ((i:Int) < (l.length:Int))=false:=decide_eq_false hi2
  have hie:i=l.length:=by omega
  rw [hie,List.take_length] at hrow
  clear hie
  go_wp2
  go_ret
  exact ⟨_,rfl,hrow.out,hB.out⟩
end Go.Proofs.YthhfmppealmblaaGreatDoor
namespace Go.Proofs.YthhfmppealmblaaGreatDoor
open Go.RowKit
theorem clC_len (x:Cl):(clC x).length=4:=rfl
def clCs (l:List Cl):List Value:=(l.map clC).flatten
theorem cl_info:(Tryz.prog.info? 47).map (fun i=>(i.zero,i.size,i.bytes))=some (some (.agg #[.int .i64 0,.int .i64 0,.int .i64 0,.int .i64 0]),4,32):=by kernel_rfl
theorem cls_step {W:World} {base:Nat} {t:TypeId} {v:Value} {l:List Cl} {n:Nat} {p:Pp} {a b:Int} (h:W.ownsRow base t 4 v n (clCs l ++ [.int .i64 p.1,.int .i64 p.2,.int .i64 a,.int .i64 b])) (hn:n=l.length + 1):W.ownsRow base t 4 v (l ++ [(p,a,b)]).length (clCs (l ++ [(p,a,b)])):=by
  have e:clCs (l ++ [(p,a,b)])=clCs l ++ [.int .i64 p.1,.int .i64 p.2,.int .i64 a,.int .i64 b]:=by simp [clCs,clC]
  rw [e,List.length_append,List.length_singleton,← hn]
  exact h
theorem ARd.of_cls {W:World} {base:Nat} {t:TypeId} {v:Value} {l:List Cl} (h:W.ownsRow base t 4 v l.length (clCs l)):ARd W v 4 (l.map clC) :=
  ARd.of_row (by intro r hr; obtain ⟨p,_,rfl⟩:=List.mem_map.1 hr; rfl) (by rw [List.length_map]; exact h)
theorem cls_box {W:World} {base:Nat} {v:Value} {l:List Cl} (h:W.ownsRow base 47 4 v l.length (clCs l)) (h0:l≠[]):∃ g cap,v = .slice (some ⟨g,0,none⟩) l.length cap∧base≤g ∧
    (∀ k (hk:k < l.length),W.cell? ⟨g,k * 4,none⟩=some (.int .i64 l[k].1.1)∧W.cell? ⟨g,k * 4 + 1,none⟩=some (.int .i64 l[k].1.2)∧W.cell? ⟨g,k * 4 + 2,none⟩=some (.int .i64 l[k].2.1)∧W.cell? ⟨g,k * 4 + 3,none⟩=some (.int .i64 l[k].2.2)∧W.frozen? ⟨g,k * 4 + 3,none⟩=false) ∧
    (∀ k (hk:k < l.length) (t:Int),(W.setCell ⟨g,k * 4 + 3,none⟩ (.int .i64 t)).ownsRow base 47 4 v (l.set k (l[k].1,l[k].2.1,t)).length (clCs (l.set k (l[k].1,l[k].2.1,t)))):=by
  rcases h.2 with ⟨rfl,e⟩ | ⟨g,cap,cur,rfl,_⟩
  · exact absurd (List.length_eq_zero_iff.1 e) h0
  · obtain ⟨h1,h2,h3,_⟩:=EnB.of_row (enc:=clC) (m:=l) h
    refine ⟨g,cap,rfl,h2,fun k hk=>?_,fun k hk t=>?_⟩
    · have c0:=h1.cell clC_len hk (j:=0) rfl
      have c1:=h1.cell clC_len hk (j:=1) rfl
      have c2:=h1.cell clC_len hk (j:=2) rfl
      have c3:=h1.cell clC_len hk (j:=3) rfl
      exact ⟨c0.1,c1.1,c2.1,c3.1,c3.2⟩
    · have h4:=h1.setk clC_len hk (j:=3) (by omega) (v:=.int .i64 t) (y:=(l[k].1,l[k].2.1,t)) rfl
      have h5:=h4.row clC_len h2 h3
      rw [List.length_set] at h5 ⊢
      exact h5
def SdE (S:Sp) (B:(Th→Int)→Pp→Bool) (l:List Ev) (R:List Cl) (c:Int):Prop:=((recE S l).2≠0∧R=[]∧c=(recE S l).2)∨((recE S l).2=0∧((R=sndsL S B l∧R.length≤20000∧c=0)∨(R=[]∧c=5∧20000 < (sndsL S B l).length)))
def SdsR (S:Sp) (B:(Th→Int)→Pp→Bool) (l:List Ev) (w:World) (e:Ending) (w':World):Prop:=∃ v R c,e = .returned (.tuple #[v,.int .i64 c])∧w'.ownsRow w.heap.size 47 4 v R.length (clCs R)∧SdE S B l R c∧Below w.heap.size w w'
theorem filter_take_succ {α:Type} {l:List α} {q:α→Bool} {k:Nat} (h:k < l.length):(l.take (k + 1)).filter q=(l.take k).filter q ++ if q l[k] then [l[k]] else []:=by
  rw [List.take_succ_eq_append_getElem h,List.filter_append]
  cases e:q l[k] with
  | true=>rw [List.filter_cons_of_pos e,List.filter_nil]; rfl
  | false=>rw [List.filter_cons_of_neg (by simp [e]),List.filter_nil]; rfl
set_option maxRecDepth 100000 in
set_option maxHeartbeats 12800000 in
theorem sounds31_any (v1 v2 v3 v4:Value) (S:Sp) (ok:SpOk S) (fp:Nat→Value) (l:List Ev) (vl:Value) (B:(Th→Int)→Pp→Bool) (hB:SndIs S B) (w:World) (hsp:SpRd w v1 v2 v3 v4 fp S) (hlv:ARd w vl 5 (l.map evC)) (hl:l.length≤50000) :
    Calls Tryz.prog 23 #[.agg #[v1,v2,v3,v4],vl] w (SdsR S B l w):=by
  obtain ⟨i0,hi0,hz0,hz1,hz2⟩:=info_parts cl_info
  have HB0:=Lib.hid (show Below w.heap.size w (w.alloc (.cells #[v1,v2,v3,v4] 27)) from (Below.refl _ w).alloc (Nat.le_refl _) _)
  have B0:=Lib.hid (Blk.new w 27 #[v1,v2,v3,v4])
  have HCK:=Lib.hid (fun (W:World) (hb:Below w.heap.size w W)=>rcheck31_any v1 v2 v3 v4 S ok fp l vl W (hsp.later hb) (by omega) (hlv.later hb))
  have HSP:=Lib.hid hsp
  have HLV:=Lib.hid hlv
  have HSB:=Lib.hid hB
  have HOK:=Lib.hid ok
  obtain ⟨s0,s1,s2,s3⟩:=B0.out.four
  clear hsp hlv hB ok
  go_enter Tryz.func23,Tryz.ntmps23
  go_wp2_with fail
  refine (HCK.out _ HB0.out).mono ?_
  rintro e W ⟨rfl,hb⟩
  have HB1:=Lib.hid (below_step HB0.out hb)
  have B1:=Lib.hid (B0.out.below hb)
  clear HCK hb B0 HB0 s0 s1 s2 s3
  obtain ⟨r1,hr1⟩:∃ r,(recE S l).1=r:=⟨_,rfl⟩
  obtain ⟨r2,hr2⟩:∃ r,(recE S l).2=r:=⟨_,rfl⟩
  rw [hr1,hr2]
  by_cases hz:r2=0
  case neg =>
    have q1:(r2 == 0)=false:=by simpa using hz
    have HF:=Lib.hid (show SdE S B l [] r2 from .inl ⟨by rw [hr2]; exact hz,rfl,hr2.symm⟩)
    clear hz hr1 hr2
    go_wp2
    go_ret2
    exact ⟨_,[],_,rfl,World.ownsRow_nil _ _ _ _,HF.out,HB1.out⟩
  subst hz
  have HR:=Lib.hid (recE_ok hr2)
  have HRZ:=Lib.hid hr2
  have HTK:=Lib.hid (ticks31_any l vl W (HLV.out.later HB1.out) hl HR.out.asc (fun x hx=>(HR.out.nonneg hx).2))
  clear hr1 hr2
  go_wp2_with fail
  refine (HTK.out).mono ?_
  rintro e W2 ⟨vt,rfl,hrt,hb2⟩
  have HB2:=Lib.hid (below_step HB1.out hb2)
  have B2:=Lib.hid (B1.out.below hb2)
  have HTS:=Lib.hid (ARd.of_ints hrt)
  obtain ⟨at',ct,evt⟩:=row_formS hrt
  subst evt
  have HTL:=len_ticksL [] l
  rw [List.length_nil] at HTL
  have HIN:=Lib.hid (ticks_in HR.out)
  have HASC:=Lib.hid (show (ticksL [] l).Pairwise (· < ·) from asc_ticksL List.Pairwise.nil)
  have HSD:=Lib.hid (show sdS (allFrom 0 S.rs) (sndN B l) (fun _=>false) [] (ticksL [] l)=sndsL S B l from rfl)
  obtain ⟨T,hT⟩:∃ T,ticksL [] l=T:=⟨_,rfl⟩
  rw [hT] at HTS HTL HIN HASC HSD ⊢
  have hpl:∀ x∈l,Placed x:=fun x hx=>by
    obtain ⟨i,hi,rfl⟩:=List.getElem_of_mem hx
    exact ev_placed HR.out.sp (HR.out.at' i hi).2
  have HON:=Lib.hid (fun t=>(HR.out.on HRZ.out (upN_spec HR.out.asc t).1).1)
  have HUP:=Lib.hid (fun (t:Int) (W:World) (hb:Below w.heap.size w W)=>up_any l vl t W (by omega) (HLV.out.later hb) hpl)
  have HHA:=Lib.hid (fun (t:Int) (W:World) (c:Array Value) (ho:OnI (onV (l.take (upN l t))) c) (hb:Below w.heap.size w W)=>hand31_any v1 v2 v3 v4 S HR.out.sp fp c _ ho W (HSP.out.later hb))
  have HPI:=Lib.hid (fun (t:Int) (W:World) (vk vs vc:Value) (hb:Below w.heap.size w W) (hh:HdRd W vk vs vc S (onV (l.take (upN l t))))=>pipes12_any v1 v2 v3 v4 S HOK.out HR.out.sp fp vk vs vc (upF l t) (HON.out t) B HSB.out W (HSP.out.later hb) hh)
  have HR0:=Lib.hid (show W2.ownsRow W2.heap.size 47 4 (.slice none 0 0) (sdS (allFrom 0 S.rs) (sndN B l) (fun _=>false) [] (T.take 0)).length (clCs (sdS (allFrom 0 S.rs) (sndN B l) (fun _=>false) [] (T.take 0))) from World.ownsRow_nil _ _ _ _)
  have HW0:=Lib.hid (show W2.ownsRow W2.heap.size 45 2 (.slice none 0 0) ((allFrom 0 S.rs).filter (wasN (sndN B l) (fun _=>false) (T.take 0))).length (ppCs ((allFrom 0 S.rs).filter (wasN (sndN B l) (fun _=>false) (T.take 0)))) by
    have:(allFrom 0 S.rs).filter (wasN (sndN B l) (fun _=>false) (T.take 0))=[]:=List.filter_eq_nil_iff.2 fun p _=>by rw [List.take_zero]; exact Bool.false_ne_true
    rw [this]
    exact World.ownsRow_nil _ _ _ _)
  have HLE0:=Lib.hid (show (sdS (allFrom 0 S.rs) (sndN B l) (fun _=>false) [] (T.take 0)).length≤20000 by rw [List.take_zero]; exact Nat.zero_le _)
  have HBB0:=Lib.hid (Below.refl W2.heap.size W2)
  have HAL:=allFrom_len (spGood HR.out.sp).r 0
  have HAL2:(allFrom 0 S.rs).length≤4000:=by have:=(spGood HR.out.sp).rs; omega
  have HOKP:=Lib.hid (fun (i:Nat) (c:Cl) (hc:c∈sdS (allFrom 0 S.rs) (sndN B l) (fun _=>false) [] (T.take i))=>by
    obtain ⟨lo,was,h⟩:=sdS_ok (N:=sndN B l) (asc_allFrom 0 S.rs) (sndN_all HSB.out HR.out.sp l) (sdOk_start (allFrom 0 S.rs) (l.map (·.1)) (-1)) (HASC.out.sublist (List.take_sublist i T)) (fun t ht=>HIN.out t (List.mem_of_mem_take ht))
    exact (h.mem c hc).1)
  clear hrt hb2 hT hpl HTK B1 HB1 HAL HIN HASC
  go_wp2
  go_loopw [8,9,11] (fun v u x wr=>∃ (i:Nat),i≤T.length∧x = .int .i64 i∧RowKit.Hid (wr.ownsRow W2.heap.size 47 4 v (sdS (allFrom 0 S.rs) (sndN B l) (fun _=>false) [] (T.take i)).length (clCs (sdS (allFrom 0 S.rs) (sndN B l) (fun _=>false) [] (T.take i))))∧RowKit.Hid (wr.ownsRow W2.heap.size 45 2 u ((allFrom 0 S.rs).filter (wasN (sndN B l) (fun _=>false) (T.take i))).length (ppCs ((allFrom 0 S.rs).filter (wasN (sndN B l) (fun _=>false) (T.take i)))))∧RowKit.Hid ((sdS (allFrom 0 S.rs) (sndN B l) (fun _=>false) [] (T.take i)).length≤20000)∧RowKit.Hid (Below W2.heap.size W2 wr)) (fun _ _ x _=>T.length - (intOf x).toNat)
  case atStart=>exact ⟨0,Nat.zero_le _,rfl,HR0,HW0,HLE0,HBB0⟩
  clear HR0 HW0 HLE0 HBB0
  obtain ⟨i,hi,rfl,hrow,hwas,hle,hB⟩:=hrel
  by_cases hil:i < T.length
  · have hi2:(i:Int) < (T.length:Int):=by omega
    obtain ⟨b,o,c',ev,hbl,k0⟩:=(HTS.out.later hB.out).intAt i hil
    cases ev
    have HST:=Lib.hid (sdS_take (all:=allFrom 0 S.rs) (N:=sndN B l) (was:=fun _=>false) hil)
    have HWN:=Lib.hid (show wasN (sndN B l) (fun _=>false) (T.take (i + 1))=sndN B l T[i] by rw [List.take_succ_eq_append_getElem hil,wasN_snoc])
    have HTOT:=Lib.hid (show (sdS (allFrom 0 S.rs) (sndN B l) (fun _=>false) [] (T.take (i + 1))).length≤(sndsL S B l).length by rw [← HSD.out]; exact sdS_len_take)
    have HAT:=Lib.hid (HOKP.out i)
    obtain ⟨tk,htk⟩:∃ z,T[i]=z:=⟨_,rfl⟩
    rw [htk] at k0 HST HWN
    obtain ⟨R,hRR⟩:∃ R,sdS (allFrom 0 S.rs) (sndN B l) (fun _=>false) [] (T.take i)=R:=⟨_,rfl⟩
    obtain ⟨WS,hWS⟩:∃ R,wasN (sndN B l) (fun _=>false) (T.take i)=R:=⟨_,rfl⟩
    rw [hRR] at hrow hle HST HAT
    rw [hWS] at hwas HST
    obtain ⟨L,hL⟩:∃ L,(allFrom 0 S.rs).filter WS=L:=⟨_,rfl⟩
    rw [hL] at hwas
    obtain ⟨M,hM⟩:∃ M,sndL S B (upF l tk)=M:=⟨_,rfl⟩
    have HNS:=Lib.hid (newS_is hL.symm (show M=(allFrom 0 S.rs).filter (sndN B l tk) from hM.symm) tk)
    have HLL:L.length≤4000:=by rw [← hL]; have:=List.length_filter_le WS (allFrom 0 S.rs); omega
    have HML:M.length≤4000:=by rw [← hM]; exact sndL_len HR.out.sp B _
    have HMI:=Lib.hid (fun (p:Pp) (hp:p∈allFrom 0 S.rs)=>show decide (p∈M)=sndN B l tk p by rw [← hM]; unfold sndL; rw [Bool.eq_iff_iff,decide_eq_true_iff,List.mem_filter]; exact ⟨fun h=>h.2,fun h=>⟨hp,h⟩⟩)
    have HP1:=Lib.hid (HPI.out tk)
    rw [hM] at HP1
    have HTI:=Lib.hid htk
    have HMM:=Lib.hid (show (allFrom 0 S.rs).filter (sndN B l tk)=M from hM)
    clear htk hRR hWS hL hM
    obtain ⟨s0,s1,s2,s3⟩:=(B2.out.below hB.out).four
    have hdr:=hold5 (W0:=wr) ⟨Below.refl _ wr,s0,s1,s2,s3,k0⟩ ((Below.refl _ wr).drew)
    have HBW:=Lib.hid (below_step HB2.out hB.out)
    go_upto_region 10 with fail
    go_cut [12] from 27 to 104 (fun x12 wx=>∃ (a:Option Addr) (c:Nat),x12 = .slice a M.length c∧RowKit.Hid (wx.ownsRow wr.heap.size 45 2 (.slice a M.length c) M.length (ppCs M))∧RowKit.Hid (Below wr.heap.size wr wx))
    case first =>
      clear hrow hwas hle HST HWN HTOT HAT HNS HMI HTS
      go_region_held3 (fun w'=>Below wr.heap.size wr w'∧w'.cell? ⟨w.heap.size,0,none⟩=some v1∧w'.cell? ⟨w.heap.size,1,none⟩=some v2∧w'.cell? ⟨w.heap.size,2,none⟩=some v3∧w'.cell? ⟨w.heap.size,3,none⟩=some v4∧w'.cell? ⟨b,o + i,none⟩=some (.int .i64 tk)) (first | exact hdr | assumption) (first | (go_at_call 55; (with_reducible refine (HUP.out tk _ (below_step HBW.out hdr.1)).mono ?_); rintro e w2 ⟨c,rfl,hon2,hb2⟩; have hn:=hold5 hdr hb2; clear hb2) | (go_at_call 54; (with_reducible refine (HHA.out tk _ _ hon2 (below_step HBW.out hn.1)).mono ?_); rintro e w3 ⟨vk,vs,vc,rfl,hhd,hb3⟩; have hhd2:=hhd _ (fun _ _ _=>rfl); have hn3:=hold5 hn hb3; clear hb3 hhd) | (go_at_call 51; (with_reducible refine (HP1.out _ _ _ _ (below_step HBW.out hn3.1) hhd2).mono ?_); rintro e w4 ⟨va,rfl,hrw,hb4⟩; obtain ⟨aa,ca,rfl⟩:=row_formS hrw; have hn4:=hold5 hn3 hb4; have hs4:=hn3.1.size; clear hb4))
      all_goals
        (have HQ:=Lib.hid (row_base hrw hs4)
         have HQB:=Lib.hid hn4.1
         clear hdr hn hn3 hn4 hrw hhd2 hon2 hs4 HUP HHA HP1 HPI
         go_wp2_with fail
         go_meet
         exact ⟨aa,ca,rfl,HQ,HQB⟩)
    case rest =>
    obtain ⟨am,cm,rfl,hrm,hbm⟩:=hcut
    rename World=>W4
    have hszw:=hB.out.size
    have HRM:=Lib.hid (row_base hrm.out hszw)
    have HRW:=Lib.hid (row_later hrow.out hbm.out)
    have HWS:=Lib.hid (row_later hwas.out hbm.out)
    have HB4:=Lib.hid (below_step hB.out hbm.out)
    have hRl:=hle.out
    clear hdr s0 s1 s2 s3 k0 hrow hwas hle hrm hbm hB HP1 HBW hszw
    obtain ⟨av,cv,hv8⟩:=row_formS HRW.out
    subst hv8
    have HRW0:=Lib.hid (show W4.ownsRow W2.heap.size 47 4 (.slice av R.length cv) (endK (sndN B l tk) tk R 0).length (clCs (endK (sndN B l tk) tk R 0)) from HRW.out)
    clear HRW
    go_wp2
    go_loopw [14] (fun x wr=>∃ (k:Nat),k≤R.length∧x = .int .i64 k∧RowKit.Hid (wr.ownsRow W2.heap.size 47 4 (.slice av R.length cv) (endK (sndN B l tk) tk R k).length (clCs (endK (sndN B l tk) tk R k)))∧RowKit.Hid (wr.ownsRow W2.heap.size 45 2 (.slice am M.length cm) M.length (ppCs M))∧RowKit.Hid (wr.ownsRow W2.heap.size 45 2 u9 L.length (ppCs L))∧RowKit.Hid (Below W2.heap.size W2 wr)) (fun x _=>R.length - (intOf x).toNat)
    case atStart=>exact ⟨0,Nat.zero_le _,rfl,HRW0,HRM,HWS,HB4⟩
    clear HRW0 HRM HWS HB4
    obtain ⟨k,hk,rfl,hrow,hrm,hwas,hB⟩:=hrel
    by_cases hkl:k < R.length
    · have hk2:(k:Int) < (R.length:Int):=by omega
      have hke:k < (endK (sndN B l tk) tk R k).length:=by rw [endK_len]; exact hkl
      have hne:endK (sndN B l tk) tk R k≠[]:=fun e=>by rw [e] at hke; cases hke
      have HSA:=Lib.hid (fun (h:endS (sndN B l tk) tk R[k]=R[k])=>endK_same (N:=sndN B l tk) (t:=tk) hkl h)
      have HNX:=Lib.hid (endK_next (N:=sndN B l tk) (t:=tk) hkl)
      have HAL:=Lib.hid (HAT.out R[k] (List.getElem_mem hkl))
      have HEK:=Lib.hid (endK_at (N:=sndN B l tk) (t:=tk) hkl hke)
      obtain ⟨g,cap,ev,hg,hcs,_⟩:=cls_box hrow.out hne
      rw [endK_len] at ev
      cases ev
      obtain ⟨k0,k1,k2,k3,_⟩:=hcs k hke
      rw [HEK.out] at k0 k1 k2 k3
      have HBX:=Lib.hid (fun (w5:World) (hb:Below wr.heap.size wr w5)=>(cls_box (row_later hrow.out hb) hne))
      obtain ⟨c,hcn⟩:∃ c,R[k]=c:=⟨_,rfl⟩
      rw [hcn] at k0 k1 k2 k3 HSA HNX HAL
      obtain ⟨⟨p1,p2⟩,fr,tt⟩:=c
      simp only at k0 k1 k2 k3 HAL
      have HIN:=Lib.hid (in31_any M (.slice am M.length cm) (p1,p2) wr (ARd.of_pps hrm.out) (by omega))
      rw [HMI.out _ HAL.out] at HIN
      obtain ⟨sb,hsb⟩:∃ sb,sndN B l tk (p1,p2)=sb:=⟨_,rfl⟩
      rw [hsb] at HIN
      have HCN:=Lib.hid hcn
      clear hcn hcs k2
      by_cases e1:tt < 0
      · have d1:decide (tt < 0)=true:=decide_eq_true e1
        cases sb with
        | true =>
          have HE:=Lib.hid (HSA.out (endS_no (fun h=>by have:=h.2; rw [hsb] at this; cases this)))
          clear hsb HSA HNX HBX HEK e1
          go_wp2_with fail
          refine (HIN.out).mono ?_
          rintro e w5 ⟨rfl,hb5⟩
          have H1:=Lib.hid (row_later hrow.out hb5)
          have H2:=Lib.hid (row_later hrm.out hb5)
          have H3:=Lib.hid (row_later hwas.out hb5)
          have H4:=Lib.hid (below_step hB.out hb5)
          clear hb5 k0 k1 k3 hrow hrm hwas hB HIN
          go_wp2
          go_roundw
          case rel=>exact ⟨k + 1,by omega,by go_num,by rw [HE.out]; exact H1,H2,H3,H4⟩
          case measure=>simp [intOf]; omega
        | false =>
          have HE:=Lib.hid (HNX.out.trans (by rw [endS_yes (c:=((p1,p2),fr,tt)) e1 hsb]:_=(endK (sndN B l tk) tk R k).set k ((p1,p2),fr,tk)))
          clear hsb HSA HNX e1
          go_wp2_with fail
          refine (HIN.out).mono ?_
          rintro e w5 ⟨rfl,hb5⟩
          obtain ⟨g',cap',ev',_,hcs',hput⟩:=HBX.out w5 hb5
          rw [endK_len] at ev'
          cases ev'
          have hcell:=hcs' k hke
          have hrow2:=hput k hke tk
          rw [HEK.out,HCN.out] at hcell hrow2
          obtain ⟨_,_,_,y3,f3⟩:=hcell
          have g1:=set_grown w5 g (k * 4 + 3) (.int .i64 tk)
          have hr5:=row_later hrow.out hb5
          have H1:=Lib.hid (show (w5.setCell ⟨g,k * 4 + 3,none⟩ (.int .i64 tk)).ownsRow W2.heap.size 47 4 (.slice (some ⟨g,0,none⟩) R.length cv) (endK (sndN B l tk) tk R (k + 1)).length (clCs (endK (sndN B l tk) tk R (k + 1))) by rw [HE.out]; exact hrow2)
          have H2:=Lib.hid ((row_later hrm.out hb5).kept g1 (row_apartS (row_later hrm.out hb5) hr5 (by decide)))
          have H3:=Lib.hid ((row_later hwas.out hb5).kept g1 (row_apartS (row_later hwas.out hb5) hr5 (by decide)))
          have H4:=Lib.hid ((below_step hB.out hb5).grown g1 (below_step hB.out hb5).size (fun j e=>by cases e; exact hg))
          obtain ⟨bt,ot,c9,ev9,_,z0⟩:=(HTS.out.later (below_step hB.out hb5)).intAt i hil
          cases ev9
          rw [HTI.out] at z0
          clear hb5 k0 k1 k3 hrow hrm hwas hB HIN HBX hcs' hput hrow2 g1 hr5 HEK
          go_wp2
          go_roundw
          case rel=>exact ⟨k + 1,by omega,by go_num,H1,H2,H3,H4⟩
          case measure=>simp [intOf]; omega
      · have d1:decide (tt < 0)=false:=decide_eq_false e1
        have HE:=Lib.hid (HSA.out (endS_no (fun h=>e1 h.1)))
        clear hsb HSA HNX HBX HEK e1 HIN
        go_wp2
        go_roundw
        case rel=>exact ⟨k + 1,by omega,by go_num,by rw [HE.out]; exact hrow,hrm,hwas,hB⟩
        case measure=>simp [intOf]; omega
    have hk2:¬ (k:Int) < (R.length:Int):=by omega
    have hke:k=R.length:=by omega
    rename World=>W5
    rw [hke,endK_all] at hrow
    have hRl2:(R.map (endS (sndN B l tk) tk)).length=R.length:=List.length_map ..
    obtain ⟨R',hR'⟩:∃ R',R.map (endS (sndN B l tk) tk)=R':=⟨_,rfl⟩
    rw [hR'] at hrow hRl2
    have HST2:=Lib.hid (show sdS (allFrom 0 S.rs) (sndN B l) (fun _=>false) [] (T.take (i + 1))=R' ++ (M.filter fun p=>decide (p ∉ L)).map fun p=>(p,tk,-1) by rw [HST.out]; unfold stepS; rw [hR',HNS.out])
    have HQ0:=Lib.hid (show W5.ownsRow W2.heap.size 47 4 (.slice av R.length cv) (R' ++ ((M.take 0).filter fun p=>decide (p ∉ L)).map fun p=>(p,tk,-1)).length (clCs (R' ++ ((M.take 0).filter fun p=>decide (p ∉ L)).map fun p=>((p,tk,-1):Cl))) by rw [List.take_zero,List.filter_nil,List.map_nil,List.append_nil]; exact hrow.out)
    have hR5:R'.length≤20000:=by omega
    clear hke hk hkl hR' hrow HST HNS HAT
    go_wp2
    go_loopw [8,15] (fun v x wr=>∃ (k:Nat),k≤M.length∧x = .int .i64 k∧RowKit.Hid (wr.ownsRow W2.heap.size 47 4 v (R' ++ ((M.take k).filter fun p=>decide (p ∉ L)).map fun p=>(p,tk,-1)).length (clCs (R' ++ ((M.take k).filter fun p=>decide (p ∉ L)).map fun p=>((p,tk,-1):Cl))))∧RowKit.Hid (wr.ownsRow W2.heap.size 45 2 (.slice am M.length cm) M.length (ppCs M))∧RowKit.Hid (wr.ownsRow W2.heap.size 45 2 u9 L.length (ppCs L))∧RowKit.Hid (Below W2.heap.size W2 wr)) (fun _ x _=>M.length - (intOf x).toNat)
    case atStart=>exact ⟨0,Nat.zero_le _,rfl,HQ0,hrm,hwas,hB⟩
    clear HQ0 hrm hwas hB
    obtain ⟨k,hk,rfl,hrow,hrm,hwas,hB⟩:=hrel
    have hlen:(R' ++ ((M.take k).filter fun p=>decide (p ∉ L)).map fun p=>((p,tk,-1):Cl)).length≤30000:=by
      rw [List.length_append,List.length_map]
      have:=List.length_filter_le (fun p=>decide (p ∉ L)) (M.take k)
      rw [List.length_take] at this
      omega
    by_cases hkl:k < M.length
    · have hk2:(k:Int) < (M.length:Int):=by omega
      have HFS:=Lib.hid (filter_take_succ (q:=fun p=>decide (p ∉ L)) hkl)
      obtain ⟨bm,om,c8,ev8,_,m0,m1⟩:=(ARd.of_pps hrm.out).ppAt k hkl
      cases ev8
      obtain ⟨p,hp⟩:∃ p,M[k]=p:=⟨_,rfl⟩
      rw [hp] at m0 m1 HFS
      have HIN:=Lib.hid (in31_any L u9 p wr (ARd.of_pps hwas.out) (by omega))
      obtain ⟨O,hO⟩:∃ O,(M.take k).filter (fun p=>decide (p ∉ L))=O:=⟨_,rfl⟩
      rw [hO] at hrow hlen HFS
      clear hp hO
      by_cases e1:p∈L
      · rw [decide_eq_true e1] at HIN
        have HE:=Lib.hid (show (M.take (k + 1)).filter (fun p=>decide (p ∉ L))=O by rw [HFS.out,if_neg (by simpa using e1),List.append_nil])
        clear e1 HFS
        go_wp2_with fail
        refine (HIN.out).mono ?_
        rintro e w5 ⟨rfl,hb5⟩
        have H1:=Lib.hid (row_later hrow.out hb5)
        have H2:=Lib.hid (row_later hrm.out hb5)
        have H3:=Lib.hid (row_later hwas.out hb5)
        have H4:=Lib.hid (below_step hB.out hb5)
        clear hb5 m0 m1 hrow hrm hwas hB HIN
        go_wp2
        go_roundw
        case rel=>exact ⟨k + 1,by omega,by go_num,by rw [HE.out]; exact H1,H2,H3,H4⟩
        case measure=>simp [intOf]; omega
      · rw [decide_eq_false e1] at HIN
        have HE:=Lib.hid (show (M.take (k + 1)).filter (fun p=>decide (p ∉ L))=O ++ [p] by rw [HFS.out,if_pos (by simpa using e1)])
        clear e1 HFS
        go_wp2_with fail
        refine (HIN.out).mono ?_
        rintro e w5 ⟨rfl,hb5⟩
        have H1:=Lib.hid (row_later hrow.out hb5)
        have H2:=Lib.hid (row_later hrm.out hb5)
        have H3:=Lib.hid (row_later hwas.out hb5)
        have H4:=Lib.hid (below_step hB.out hb5)
        have y0:w5.cell? ⟨bm,om + k * 2,none⟩=some (.int .i64 p.1):=(hb5.cell (cell_size m0)).trans m0
        have y1:w5.cell? ⟨bm,om + k * 2 + 1,none⟩=some (.int .i64 p.2):=(hb5.cell (cell_size m1)).trans m1
        obtain ⟨bt,ot,c9,ev9,_,z0⟩:=(HTS.out.later H4.out).intAt i hil
        cases ev9
        rw [HTI.out] at z0
        have hsz:=H4.out.size
        have HPL:=Lib.hid (fun (o:Obj) (w6:World) (hg:(w5.alloc o).grownBy w6 u8.ownBlock)=>push_low H4.out H1.out hg)
        have HK2:=Lib.hid (fun (o:Obj) (w6:World) (hg:(w5.alloc o).grownBy w6 u8.ownBlock)=>(H2.out.alloc o).kept hg (row_apartS (H2.out.alloc o) (H1.out.alloc o) (by decide)))
        have HK3:=Lib.hid (fun (o:Obj) (w6:World) (hg:(w5.alloc o).grownBy w6 u8.ownBlock)=>(H3.out.alloc o).kept hg (row_apartS (H3.out.alloc o) (H1.out.alloc o) (by decide)))
        clear hb5 m0 m1 hrow hrm hwas hB HIN
        go_wp2_with fail
        go_region_law ((refine step_append_lies _ rfl _ _ 29 rfl W2.heap.size 47 i0 _ 4 32 Tryz.underlying29 hi0 hz0 hz1 hz2 rfl (by omega) _ _ _ rfl (H1.out.alloc _) ⟨w5.heap.size,0,none⟩ 1 1 [.int .i64 p.1,.int .i64 p.2,.int .i64 tk,.int .i64 (-1)] rfl rfl (World.news_of_block (cs:=#[.int .i64 p.1,.int .i64 p.2,.int .i64 tk,.int .i64 (-1)]) (t:=47) (fr:=(0,0)) (heap_alloc_new w5 _)) (by simp [Value.oneCell']) (by omega) (by unfold maxLen; omega) (by omega) (by simp; omega) (w5.heap.size + 1) (by simp) ?_; intro gg cap3 w3 hown3 hgrow hat3 hlt3; have HP3:=Lib.hid hown3; have HB3:=Lib.hid (HPL.out _ _ ⟨hgrow.os,hgrow.tape,hgrow.output,hgrow.size,hgrow.block⟩); have H23:=Lib.hid (HK2.out _ _ ⟨hgrow.os,hgrow.tape,hgrow.output,hgrow.size,hgrow.block⟩); have H33:=Lib.hid (HK3.out _ _ ⟨hgrow.os,hgrow.tape,hgrow.output,hgrow.size,hgrow.block⟩)))
        all_goals
          clear hown3 hgrow hat3 hlt3
          have HP4:=Lib.hid (cls_step (l:=R' ++ O.map fun p=>((p,tk,-1):Cl)) (p:=p) (a:=tk) (b:=-1) HP3.out rfl)
          rw [List.append_assoc,show (O.map fun p=>((p,tk,-1):Cl)) ++ [(p,tk,-1)]=(O ++ [p]).map (fun p=>((p,tk,-1):Cl)) by rw [List.map_append]; rfl,← HE.out] at HP4
          go_wp2
          go_roundw
          case rel=>exact ⟨k + 1,by omega,by go_num,by have:=HP4.out; simpa only [List.length_append,List.length_map,hRl2] using Lib.hid this,H23,H33,HB3⟩
          case measure=>simp [intOf]; omega
    have hk2:¬ (k:Int) < (M.length:Int):=by omega
    have hke:k=M.length:=by omega
    rw [hke,List.take_length,← HST2.out] at hrow hlen
    obtain ⟨X,hX⟩:∃ X,sdS (allFrom 0 S.rs) (sndN B l) (fun _=>false) [] (T.take (i + 1))=X:=⟨_,rfl⟩
    have HTOT2:=HTOT.out
    rw [hX] at hrow hlen HTOT2
    have HX:=Lib.hid hX
    obtain ⟨a8,c8,hv8⟩:=row_formS hrow.out
    subst hv8
    have HBE:=Lib.hid (below_step HB2.out hB.out)
    clear hke hk hkl hX HST2
    by_cases hbig:20000 < X.length
    · have d1:decide ((20000:Int) < (X.length:Int))=true:=decide_eq_true (by omega)
      have HF:=Lib.hid (show SdE S B l [] 5 from .inr ⟨HRZ.out,.inr ⟨rfl,rfl,by omega⟩⟩)
      go_wp2
      go_ret2
      exact ⟨_,[],_,rfl,World.ownsRow_nil _ _ _ _,HF.out,HBE.out⟩
    · have d1:decide ((20000:Int) < (X.length:Int))=false:=decide_eq_false (by omega)
      have HWX:=Lib.hid (show (allFrom 0 S.rs).filter (wasN (sndN B l) (fun _=>false) (T.take (i + 1)))=M by rw [HWN.out,HMM.out])
      go_wp2
      go_roundw
      case rel=>exact ⟨i + 1,by omega,by go_num,by rw [HX.out]; exact hrow,by rw [HWX.out]; exact hrm,by rw [HX.out]; exact Lib.hid (by omega),hB⟩
      case measure=>simp [intOf]; omega
  have hi2:¬ (i:Int) < (T.length:Int):=by omega
  have hie:i=T.length:=by omega
  rw [hie,List.take_length,HSD.out] at hrow hle
  have HBE:=Lib.hid (below_step HB2.out hB.out)
  have HRF:=Lib.hid (row_base hrow.out HB2.out.size)
  have HF:=Lib.hid (show SdE S B l (sndsL S B l) 0 from .inr ⟨HRZ.out,.inl ⟨rfl,hle.out,rfl⟩⟩)
  clear hie hrow hle hwas hB
  go_wp2
  go_ret2
  exact ⟨_,_,_,rfl,HRF.out,HF.out,HBE.out⟩
end Go.Proofs.YthhfmppealmblaaGreatDoor
