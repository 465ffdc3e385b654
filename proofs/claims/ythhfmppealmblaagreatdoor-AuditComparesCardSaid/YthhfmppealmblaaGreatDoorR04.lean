/-
  A part of the proof: AW, F1c, LG, L21, OpenS, Open, OpenA.
-/
import Derived.Test.YthhfmppealmblaaGreatDoorR03
import Derived.Deep.RegionHeld3
import Derived.Test.YthhfmppealmblaaGreatDoorQ02
import Derived.Test.YthhfmppealmblaaGreatDoorQ04
import Derived.Test.YthhfmppealmblaaGreatDoorQ16
import Derived.Test.YthhfmppealmblaaGreatDoorQ07
import Derived.Test.YthhfmppealmblaaGreatDoorR02
import Derived.Deep.Slices
import Derived.Deep.Fields
import Derived.ChangeSame
import Derived.ChangeArms
import Derived.OpenShut
import Derived.Lib.SmallJoins
import Derived.Test.YthhfmppealmblaaGreatDoorCards
import Derived.Test.YthhfmppealmblaaGreatDoorTie
import Derived.Test.YthhfmppealmblaaGreatDoorQ01
import Derived.WalkKit
import Derived.ProofKit
import Derived.Deep.DeepHandedRow
import Derived.Deep.DeepWitnessRowRef
import Derived.Lib.LaidTab
import Derived.LaidMore
import Derived.ShutString
import Derived.Stop.LaidErr
import Derived.MakeChecks
import Derived.Test.YthhfmppealmblaaGreatDoorQ21
namespace Go.Proofs.YthhfmppealmblaaGreatDoor
open Go.RowKit
theorem ard_cls {W:World} {b:Nat} {t:TypeId} (h:Blk W b t #[.int .i64 0,.int .i64 40,.int .i64 10,.int .i64 30,.int .i64 0,.int .i64 52,.int .i64 20,.int .i64 60]):ARd W (.slice (some ⟨b,0,none⟩) 2 2) 4 (exCl.map clC) :=
 ARd.of_blk (k:=4) (rows:=exCl.map clC) h (by intro r hr; obtain ⟨x,_,rfl⟩:=List.mem_map.1 hr; rfl) rfl _ _ rfl
theorem ard_fas {W:World} {b:Nat} {t:TypeId} (h:Blk W b t #[.int .i64 1,.int .i64 0,.int .i64 52,.int .i64 10,.int .i64 20,.int .i64 2,.int .i64 0,.int .i64 52,.int .i64 50,.int .i64 60]):ARd W (.slice (some ⟨b,0,none⟩) 2 2) 5 (([(1,(0,52),10,20),(2,(0,52),50,60)]:List Fa).map faC) :=
 ARd.of_blk (k:=5) (rows:=([(1,(0,52),10,20),(2,(0,52),50,60)]:List Fa).map faC) h (by intro r hr; obtain ⟨x,_,rfl⟩:=List.mem_map.1 hr; rfl) rfl _ _ rfl
set_option maxRecDepth 100000 in
set_option maxHeartbeats 6400000 in
theorem awake_any (w:World) (t:Tabs w):Calls Tryz.prog 13 #[] w (BoR true w):=by
 have HT:=Lib.hid t
 clear t
 go_enter Tryz.func13,Tryz.ntmps13
 go_wp2_with fail
 refine (example_any w).mono ?_
 rintro e W1 ⟨rfl,hm,hb1⟩
 have HM1:=Lib.hid hm
 have HB1:=Lib.hid hb1
 clear hm hb1
 go_wp2_with fail
 refine (events_any W1).mono ?_
 rintro e W2 ⟨rfl,hev,hb2⟩
 have hsr:=(HM1.out.below hb2).rd
 obtain ⟨p,hp⟩:∃ p,w.heap.size=p:=⟨_,rfl⟩
 rw [hp] at hsr ⊢
 obtain ⟨pe,hpe⟩:∃ p,W1.heap.size=p:=⟨_,rfl⟩
 rw [hpe] at hev ⊢
 have HB2:=Lib.hid (below_step HB1.out hb2)
 have HP:=Lib.hid hp
 have hal:Below W2.heap.size W2 (W2.alloc (.cells #[.slice (some ⟨p + 3,0,none⟩) 1 1,.slice (some ⟨p + 4,0,none⟩) 2 2,.slice (some ⟨p + 8,0,none⟩) 3 3,.slice (some ⟨p + 9,0,none⟩) 1 1] 27)):=(Below.refl _ _).alloc (Nat.le_refl _) _
 have hk:=Blk.new W2 27 #[.slice (some ⟨p + 3,0,none⟩) 1 1,.slice (some ⟨p + 4,0,none⟩) 2 2,.slice (some ⟨p + 8,0,none⟩) 3 3,.slice (some ⟨p + 9,0,none⟩) 1 1]
 have HSR:=Lib.hid (hsr.later hal)
 have HEV:=Lib.hid (hev.later hal)
 have HK:=Lib.hid hk
 have HB3:=Lib.hid (below_step HB2.out hal)
 clear hsr hev hp hpe hb2 HM1 HB1 HB2 hal hk
 go_upto_region 2 with fail
 obtain ⟨P,hP⟩:∃ P,W2.heap.size=P:=⟨_,rfl⟩
 rw [hP] at HK ⊢
 generalize W2.alloc (.cells #[.slice (some ⟨p + 3,0,none⟩) 1 1,.slice (some ⟨p + 4,0,none⟩) 2 2,.slice (some ⟨p + 8,0,none⟩) 3 3,.slice (some ⟨p + 9,0,none⟩) 1 1] 27)=W3 at *
 obtain ⟨v1,hv1⟩:∃ v:Value,.slice (some ⟨p + 3,0,none⟩) 1 1=v:=⟨_,rfl⟩
 obtain ⟨v2,hv2⟩:∃ v:Value,.slice (some ⟨p + 4,0,none⟩) 2 2=v:=⟨_,rfl⟩
 obtain ⟨v3,hv3⟩:∃ v:Value,.slice (some ⟨p + 8,0,none⟩) 3 3=v:=⟨_,rfl⟩
 obtain ⟨v4,hv4⟩:∃ v:Value,.slice (some ⟨p + 9,0,none⟩) 1 1=v:=⟨_,rfl⟩
 rw [hv1,hv2,hv3,hv4] at HK HSR
 try rw [hv1]
 try rw [hv2]
 try rw [hv3]
 try rw [hv4]
 clear hP hv1 hv2 hv3 hv4
 obtain ⟨s0,s1,s2,s3⟩:=HK.out.four
 have hdr:=hold4 (W0:=W3) ⟨Below.refl _ W3,s0,s1,s2,s3⟩ ((Below.refl _ W3).drew)
 have HCLM:=Lib.hid (fun (W:World) (hb:Below W3.heap.size W3 W) (b:Nat) (hk:Blk W b 47 #[.int .i64 0,.int .i64 40,.int .i64 10,.int .i64 30,.int .i64 0,.int .i64 52,.int .i64 20,.int .i64 60])=>aclaims_any v1 v2 v3 v4 (exS 37) (exS_ok 37) _ exEv (.slice (some ⟨pe,0,none⟩) 7 7) exCl (.slice (some ⟨b,0,none⟩) 2 2) (sndB (exS 37)) (sndB_is exS_thr) W (HT.out.below (below_step HB3.out hb)) (HSR.out.later hb) (HEV.out.later hb) (ard_cls hk) (by decide) (by decide))
 clear s0 s1 s2 s3
 go_region_held3 (fun w'=>Below W3.heap.size W3 w'∧w'.cell? ⟨P,0,none⟩=some v1∧w'.cell? ⟨P,1,none⟩=some v2∧w'.cell? ⟨P,2,none⟩=some v3∧w'.cell? ⟨P,3,none⟩=some v4) (first | exact hdr | assumption | exact hold4 (by assumption) ((Below.refl _ _).alloc (Nat.le_refl _) _)) (first | (go_at_call 38; (with_reducible refine (flute_any 40 _).mono ?_); rintro e w5 ⟨rfl,hb5⟩; have hn5:=hold4 hdr hb5; clear hb5) | (go_at_call 38; (with_reducible refine (flute_any 52 _).mono ?_); rintro e w6 ⟨rfl,hb6⟩; have hn6:=hold4 hn5 hb6; clear hb6) | (go_at_call 14; refine (HCLM.out _ (hn6.1.alloc hn6.1.size _) _ (Blk.new _ _ _)).mono ?_; rintro e w8 ⟨vf,mf,cf,rfl,hrow,hcl,hb8⟩; obtain ⟨rfl,rfl⟩:=ex_out hcl; have hn8:=hold4 (hold4 hn6 ((Below.refl _ _).alloc (Nat.le_refl _) _)) hb8; clear hb8 hcl))
 have HB8:=Lib.hid (below_step HB3.out hn8.1)
 have HRF:=Lib.hid (ARd.of_fas hrow)
 have HPK:=Lib.hid (peak_any v1 v2 v3 v4 (exS 37) (exS_ok 37) _ exEv (.slice (some ⟨pe,0,none⟩) 7 7) (sndB (exS 37)) (sndB_is exS_thr) w8 (HT.out.below HB8.out) (HSR.out.later hn8.1) (HEV.out.later hn8.1) (by decide))
 obtain ⟨_,s0,s1,s2,s3⟩:=hn8
 clear hdr hn5 hn6 hrow HCLM HSR HEV
 go_wp2_with fail
 refine (HPK.out).mono ?_
 rintro e w9 ⟨rfl,hb9⟩
 rw [ex_pk,ex_aud]
 have HB9:=Lib.hid (below_step HB8.out hb9)
 have HF9:=Lib.hid (HRF.out.later hb9)
 clear hb9 HPK s0 s1 s2 s3 HRF HB8
 dsimp only
 go_wp2_with fail
 refine (flute_any 52 _).mono ?_
 rintro e wa ⟨rfl,hba⟩
 have HBa:=Lib.hid (below_step HB9.out hba)
 have HFa:=Lib.hid (HF9.out.later hba)
 clear hba HB9 HF9
 go_wp2_with fail
 refine (flute_any 52 _).mono ?_
 rintro e wb ⟨rfl,hbb⟩
 have hbb2:Below wb.heap.size wb (wb.alloc (.cells #[.int .i64 1,.int .i64 0,.int .i64 52,.int .i64 10,.int .i64 20,.int .i64 2,.int .i64 0,.int .i64 52,.int .i64 50,.int .i64 60] 52)):=(Below.refl _ _).alloc (Nat.le_refl _) _
 have HBb:=Lib.hid (below_step HBa.out (below_step hbb hbb2))
 have HSM:=Lib.hid (same_any _ _ vf (.slice (some ⟨wb.heap.size,0,none⟩) 2 2) _ (HFa.out.later (below_step hbb hbb2)) (ard_fas (Blk.new wb 52 #[.int .i64 1,.int .i64 0,.int .i64 52,.int .i64 10,.int .i64 20,.int .i64 2,.int .i64 0,.int .i64 52,.int .i64 50,.int .i64 60])) (by decide))
 rw [decide_eq_true rfl] at HSM
 clear hbb hbb2 HBa HFa
 go_wp2_with fail
 refine (HSM.out).mono ?_
 rintro e wc ⟨rfl,hbc⟩
 have HBc:=Lib.hid (below_step HBb.out hbc)
 clear hbc HSM HBb
 go_wp2
 go_ret
 exact ⟨rfl,HBc.out⟩
end Go.Proofs.YthhfmppealmblaaGreatDoor
namespace Go.Proofs.YthhfmppealmblaaGreatDoor
open Go.RowKit
def FarEnds (S:Sp) (w:World) (e:Ending) (w':World):Prop:=∃ b,e = .returned (.bool b)∧(b=false→SpOk S)∧Below w.heap.size w w'
theorem farEnds_yes {S:Sp} {w w':World} {v:Value} (hv:v = .bool true) (hb:Below w.heap.size w w'):FarEnds S w (.returned v) w':=⟨true,by rw [hv],(fun h=>by cases h),hb⟩
theorem farEnds_of {S:Sp} {w w':World} {v:Value} {b:Bool} (hv:v = .bool b) (h:b=false→SpOk S) (hb:Below w.heap.size w w'):FarEnds S w (.returned v) w':=⟨b,by rw [hv],h,hb⟩
theorem all_of_get {α:Type} {l:List α} {p:α→Prop} (h:∀ j (h:j < l.length),j < l.length→p l[j]):∀ x∈l,p x:=by
 intro x hx
 obtain ⟨j,hj,rfl⟩:=List.mem_iff_getElem.1 hx
 exact h j hj hj
theorem upto_step {α:Type} {l:List α} {p:α→Prop} {k:Nat} (hk:k < l.length) (h:∀ j (h:j < l.length),j < k→p l[j]) (h2:p l[k]):∀ j (h:j < l.length),j < k + 1→p l[j]:=by
 intro j hj hjk
 rcases Nat.lt_succ_iff_lt_or_eq.1 hjk with h' | h'
 ·exact h j hj h'
 ·subst h'; exact h2
set_option maxRecDepth 100000 in
set_option maxHeartbeats 3200000 in
theorem far_long (a1 a2 a3 a4:Option Addr) (c1 c2 c3 c4:Nat) (S:Sp) (w:World) (h:10 < S.ds.length∨(S.ds.length≤10∧50 < S.rs.length)∨(S.ds.length≤10∧S.rs.length≤50∧100 < S.ss.length)∨(S.ds.length≤10∧S.rs.length≤50∧S.ss.length≤100∧40 < S.cs.length)) :
  Calls Tryz.prog 39 #[.agg #[.slice a1 S.ds.length c1,.slice a2 S.rs.length c2,.slice a3 S.ss.length c3,.slice a4 S.cs.length c4]] w (FarEnds S w):=by
 have HB:=Lib.hid (show Below w.heap.size w (w.alloc (.cells #[.slice a1 S.ds.length c1,.slice a2 S.rs.length c2,.slice a3 S.ss.length c3,.slice a4 S.cs.length c4] 27)) from (Below.refl _ w).alloc (Nat.le_refl _) _)
 rcases h with h | ⟨h1,h⟩ | ⟨h1,h2,h⟩ | ⟨h1,h2,h3,h⟩
 all_goals
  go_enter Tryz.func39,Tryz.ntmps39
  go_wp2
  go_ret
  exact farEnds_yes rfl HB.out
set_option maxRecDepth 100000 in
set_option maxHeartbeats 6400000 in
theorem far_short (a1 a2 a3 a4:Option Addr) (c1 c2 c3 c4:Nat) (S:Sp) (w:World) (f:Nat→Value) (hsp:SpRd w (.slice a1 S.ds.length c1) (.slice a2 S.rs.length c2) (.slice a3 S.ss.length c3) (.slice a4 S.cs.length c4) f S)
  (l1:S.ds.length≤10) (l2:S.rs.length≤50) (l3:S.ss.length≤100) (l4:S.cs.length≤40) :
  Calls Tryz.prog 39 #[.agg #[.slice a1 S.ds.length c1,.slice a2 S.rs.length c2,.slice a3 S.ss.length c3,.slice a4 S.cs.length c4]] w (FarEnds S w):=by
 have hb0:Below w.heap.size w (w.alloc (.cells #[.slice a1 S.ds.length c1,.slice a2 S.rs.length c2,.slice a3 S.ss.length c3,.slice a4 S.cs.length c4] 27)):=(Below.refl _ w).alloc (Nat.le_refl _) _
 have k0:Blk (w.alloc (.cells #[.slice a1 S.ds.length c1,.slice a2 S.rs.length c2,.slice a3 S.ss.length c3,.slice a4 S.cs.length c4] 27)) w.heap.size 27 #[.slice a1 S.ds.length c1,.slice a2 S.rs.length c2,.slice a3 S.ss.length c3,.slice a4 S.cs.length c4]:=Blk.new w _ _
 obtain ⟨W,hW⟩:∃ W,W=w.alloc (.cells #[.slice a1 S.ds.length c1,.slice a2 S.rs.length c2,.slice a3 S.ss.length c3,.slice a4 S.cs.length c4] 27):=⟨_,rfl⟩
 have HW:=Lib.hid hW
 rw [← hW] at hb0 k0
 have HB:=Lib.hid hb0
 have HSP:=Lib.hid (hsp.later hb0)
 have HK:=Lib.hid k0
 have g10:decide ((10:Int) < (S.ds.length:Int))=false:=by rw [decide_eq_false_iff_not]; omega
 have g50:decide ((50:Int) < (S.rs.length:Int))=false:=by rw [decide_eq_false_iff_not]; omega
 have g100:decide ((100:Int) < (S.ss.length:Int))=false:=by rw [decide_eq_false_iff_not]; omega
 have g40:decide ((40:Int) < (S.cs.length:Int))=false:=by rw [decide_eq_false_iff_not]; omega
 clear hW hb0 k0 hsp
 go_enter Tryz.func39,Tryz.ntmps39
 go_wp2
 rw [← HW.out]
 clear HW g10 g50 g100 g40
 obtain ⟨s0,s1,s2,s3⟩:=HK.out.four
 go_loop [3,4] (fun u x=>∃ (k:Nat) (b:Bool),k≤S.ds.length∧x = .int .i64 k∧u = .bool b∧RowKit.Hid (b=false→(∀ j (h:j < S.ds.length),j < k→S.ds[j].name.size≤100))) (fun _ x=>S.ds.length - (intOf x).toNat)
 case atStart=>exact ⟨0,false,by omega,rfl,rfl,Lib.hid (fun _=>fun j _ hj=>by omega)⟩
 obtain ⟨k,b0,hk,rfl,rfl,hN⟩:=hrel
 by_cases hlt:k < S.ds.length
 ·obtain ⟨bb,o,c,ev,hbl,r0,_⟩:=HSP.out.dAt k hlt
  cases ev
  have hk2:(k:Int) < (S.ds.length:Int):=by omega
  cases b0 with
  | true =>
   go_wp2
   go_round
   case rel=>exact ⟨k + 1,true,by omega,by go_num,rfl,Lib.hid (fun h=>by cases h)⟩
   case measure=>simp [intOf]; omega
  | false =>
   have HN:=Lib.hid (hN.out rfl)
   clear hN
   by_cases hsz:S.ds[k].name.size≤100
   ·have hd:decide ((100:Int) < (S.ds[k].name.size:Int))=false:=by rw [decide_eq_false_iff_not]; omega
    have HZ:=Lib.hid hsz
    clear hsz
    go_wp2
    go_round
    case rel=>exact ⟨k + 1,false,by omega,by go_num,rfl,Lib.hid (fun _=>upto_step (p:=fun x=>x.name.size≤100) hlt HN.out HZ.out)⟩
    case measure=>simp [intOf]; omega
   ·have hd:decide ((100:Int) < (S.ds[k].name.size:Int))=true:=by rw [decide_eq_true_iff]; omega
    clear hsz
    go_wp2
    go_round
    case rel=>exact ⟨k + 1,true,by omega,by go_num,rfl,Lib.hid (fun h=>by cases h)⟩
    case measure=>simp [intOf]; omega
 ·have hke:k=S.ds.length:=by omega
  have hk2:¬ ((k:Int) < (S.ds.length:Int)):=by omega
  have HN0:=hN
  rw [hke] at HN0
  clear hN
  go_wp2
  clear hke hk2 hlt hk
  go_loop [3,5] (fun u x=>∃ (k:Nat) (b:Bool),k≤S.rs.length∧x = .int .i64 k∧u = .bool b∧RowKit.Hid (b=false→(∀ j (h:j < S.ds.length),j < S.ds.length→S.ds[j].name.size≤100)∧(∀ j (h:j < S.rs.length),j < k→S.rs[j].name.size≤100))) (fun _ x=>S.rs.length - (intOf x).toNat)
  case atStart=>exact ⟨0,b0,by omega,rfl,rfl,Lib.hid (fun hb=>⟨HN0.out hb,fun j _ hj=>by omega⟩)⟩
  clear HN0
  obtain ⟨k,b1,hk,rfl,rfl,hN⟩:=hrel
  by_cases hlt:k < S.rs.length
  ·obtain ⟨bb,o,c,ev,hbl,r0,_⟩:=HSP.out.rAt k hlt
   cases ev
   have hk2:(k:Int) < (S.rs.length:Int):=by omega
   cases b1 with
   | true =>
    go_wp2
    go_round
    case rel=>exact ⟨k + 1,true,by omega,by go_num,rfl,Lib.hid (fun h=>by cases h)⟩
    case measure=>simp [intOf]; omega
   | false =>
    have HN:=Lib.hid (hN.out rfl)
    clear hN
    by_cases hsz:S.rs[k].name.size≤100
    ·have hd:decide ((100:Int) < (S.rs[k].name.size:Int))=false:=by rw [decide_eq_false_iff_not]; omega
     have HZ:=Lib.hid hsz
     clear hsz
     go_wp2
     go_round
     case rel=>exact ⟨k + 1,false,by omega,by go_num,rfl,Lib.hid (fun _=>⟨HN.out.1,upto_step (p:=fun x=>x.name.size≤100) hlt (HN.out.2) HZ.out⟩)⟩
     case measure=>simp [intOf]; omega
    ·have hd:decide ((100:Int) < (S.rs[k].name.size:Int))=true:=by rw [decide_eq_true_iff]; omega
     clear hsz
     go_wp2
     go_round
     case rel=>exact ⟨k + 1,true,by omega,by go_num,rfl,Lib.hid (fun h=>by cases h)⟩
     case measure=>simp [intOf]; omega
  ·have hke:k=S.rs.length:=by omega
   have hk2:¬ ((k:Int) < (S.rs.length:Int)):=by omega
   have HN1:=hN
   rw [hke] at HN1
   clear hN
   go_wp2
   clear hke hk2 hlt hk
   go_loop [3,6] (fun u x=>∃ (k:Nat) (b:Bool),k≤S.ss.length∧x = .int .i64 k∧u = .bool b∧RowKit.Hid (b=false→(∀ j (h:j < S.ds.length),j < S.ds.length→S.ds[j].name.size≤100)∧(∀ j (h:j < S.rs.length),j < S.rs.length→S.rs[j].name.size≤100)∧(∀ j (h:j < S.ss.length),j < k→S.ss[j].name.size≤100∧S.ss[j].parts.length≤20))) (fun _ x=>S.ss.length - (intOf x).toNat)
   case atStart=>exact ⟨0,b1,by omega,rfl,rfl,Lib.hid (fun hb=>⟨(HN1.out hb).1,(HN1.out hb).2,fun j _ hj=>by omega⟩)⟩
   clear HN1
   obtain ⟨k,b2,hk,rfl,rfl,hN⟩:=hrel
   by_cases hlt:k < S.ss.length
   ·obtain ⟨bb,o,c,ev,hbl,r0,_,_,_,r4⟩:=HSP.out.sAt k hlt
    obtain ⟨ap,cp,efp⟩:=(HSP.out.p k hlt).form
    rw [List.length_map] at efp
    rw [efp] at r4
    clear efp
    cases ev
    have hk2:(k:Int) < (S.ss.length:Int):=by omega
    cases b2 with
    | true =>
     go_wp2
     go_round
     case rel=>exact ⟨k + 1,true,by omega,by go_num,rfl,Lib.hid (fun h=>by cases h)⟩
     case measure=>simp [intOf]; omega
    | false =>
     have HN:=Lib.hid (hN.out rfl)
     clear hN
     by_cases hsz:S.ss[k].name.size≤100
     ·have hd:decide ((100:Int) < (S.ss[k].name.size:Int))=false:=by rw [decide_eq_false_iff_not]; omega
      have HZ:=Lib.hid hsz
      clear hsz
      by_cases hpz:S.ss[k].parts.length≤20
      ·have hd2:decide ((20:Int) < (S.ss[k].parts.length:Int))=false:=by rw [decide_eq_false_iff_not]; omega
       have HZ2:=Lib.hid hpz
       clear hpz
       go_wp2
       go_round
       case rel=>exact ⟨k + 1,false,by omega,by go_num,rfl,Lib.hid (fun _=>⟨HN.out.1,HN.out.2.1,upto_step (p:=fun x=>x.name.size≤100∧x.parts.length≤20) hlt (HN.out.2.2) ⟨HZ.out,HZ2.out⟩⟩)⟩
       case measure=>simp [intOf]; omega
      ·have hd2:decide ((20:Int) < (S.ss[k].parts.length:Int))=true:=by rw [decide_eq_true_iff]; omega
       clear hpz
       go_wp2
       go_round
       case rel=>exact ⟨k + 1,true,by omega,by go_num,rfl,Lib.hid (fun h=>by cases h)⟩
       case measure=>simp [intOf]; omega
     ·have hd:decide ((100:Int) < (S.ss[k].name.size:Int))=true:=by rw [decide_eq_true_iff]; omega
      clear hsz
      go_wp2
      go_round
      case rel=>exact ⟨k + 1,true,by omega,by go_num,rfl,Lib.hid (fun h=>by cases h)⟩
      case measure=>simp [intOf]; omega
   ·have hke:k=S.ss.length:=by omega
    have hk2:¬ ((k:Int) < (S.ss.length:Int)):=by omega
    have HN2:=hN
    rw [hke] at HN2
    clear hN
    go_wp2
    clear hke hk2 hlt hk
    go_loop [3,7] (fun u x=>∃ (k:Nat) (b:Bool),k≤S.cs.length∧x = .int .i64 k∧u = .bool b∧RowKit.Hid (b=false→(∀ j (h:j < S.ds.length),j < S.ds.length→S.ds[j].name.size≤100)∧(∀ j (h:j < S.rs.length),j < S.rs.length→S.rs[j].name.size≤100)∧(∀ j (h:j < S.ss.length),j < S.ss.length→S.ss[j].name.size≤100∧S.ss[j].parts.length≤20)∧(∀ j (h:j < S.cs.length),j < k→S.cs[j].name.size≤100))) (fun _ x=>S.cs.length - (intOf x).toNat)
    case atStart=>exact ⟨0,b2,by omega,rfl,rfl,Lib.hid (fun hb=>⟨(HN2.out hb).1,(HN2.out hb).2.1,(HN2.out hb).2.2,fun j _ hj=>by omega⟩)⟩
    clear HN2
    obtain ⟨k,b3,hk,rfl,rfl,hN⟩:=hrel
    by_cases hlt:k < S.cs.length
    ·obtain ⟨bb,o,c,ev,hbl,r0,_⟩:=HSP.out.cAt k hlt
     cases ev
     have hk2:(k:Int) < (S.cs.length:Int):=by omega
     cases b3 with
     | true =>
      go_wp2
      go_round
      case rel=>exact ⟨k + 1,true,by omega,by go_num,rfl,Lib.hid (fun h=>by cases h)⟩
      case measure=>simp [intOf]; omega
     | false =>
      have HN:=Lib.hid (hN.out rfl)
      clear hN
      by_cases hsz:S.cs[k].name.size≤100
      ·have hd:decide ((100:Int) < (S.cs[k].name.size:Int))=false:=by rw [decide_eq_false_iff_not]; omega
       have HZ:=Lib.hid hsz
       clear hsz
       go_wp2
       go_round
       case rel=>exact ⟨k + 1,false,by omega,by go_num,rfl,Lib.hid (fun _=>⟨HN.out.1,HN.out.2.1,HN.out.2.2.1,upto_step (p:=fun x=>x.name.size≤100) hlt (HN.out.2.2.2) HZ.out⟩)⟩
       case measure=>simp [intOf]; omega
      ·have hd:decide ((100:Int) < (S.cs[k].name.size:Int))=true:=by rw [decide_eq_true_iff]; omega
       clear hsz
       go_wp2
       go_round
       case rel=>exact ⟨k + 1,true,by omega,by go_num,rfl,Lib.hid (fun h=>by cases h)⟩
       case measure=>simp [intOf]; omega
    ·have hke:k=S.cs.length:=by omega
     have hk2:¬ ((k:Int) < (S.cs.length:Int)):=by omega
     have HN3:=hN
     rw [hke] at HN3
     clear hN
     go_wp2
     go_ret
     exact farEnds_of (b:=b3) rfl (fun h=>by
      obtain ⟨n1,n2,n3,n4⟩:=HN3.out h
      exact ⟨by omega,by omega,by omega,by omega,fun x hx=>by have:=all_of_get (p:=fun x=>x.name.size≤100) n1 x hx; omega,fun x hx=>by have:=all_of_get (p:=fun x=>x.name.size≤100) n2 x hx; omega,fun x hx=>by have:=(all_of_get (p:=fun x=>x.name.size≤100∧x.parts.length≤20) n3 x hx).1; omega,fun x hx=>by have:=all_of_get (p:=fun x=>x.name.size≤100) n4 x hx; omega,fun x hx=>by have:=(all_of_get (p:=fun x=>x.name.size≤100∧x.parts.length≤20) n3 x hx).2; omega⟩) HB.out
theorem far_any (v1 v2 v3 v4:Value) (S:Sp) (w:World) (f:Nat→Value) (hsp:SpRd w v1 v2 v3 v4 f S) :
  Calls Tryz.prog 39 #[.agg #[v1,v2,v3,v4]] w (FarEnds S w):=by
 obtain ⟨⟨a1,c1,rfl⟩,⟨a2,c2,rfl⟩,⟨a3,c3,rfl⟩,⟨a4,c4,rfl⟩⟩:=hsp.forms
 by_cases h:S.ds.length≤10∧S.rs.length≤50∧S.ss.length≤100∧S.cs.length≤40
 ·obtain ⟨l1,l2,l3,l4⟩:=h
  exact far_short a1 a2 a3 a4 c1 c2 c3 c4 S w f hsp l1 l2 l3 l4
 ·exact far_long a1 a2 a3 a4 c1 c2 c3 c4 S w (by omega)
end Go.Proofs.YthhfmppealmblaaGreatDoor
namespace Go.Proofs.YthhfmppealmblaaGreatDoor
open Go.RowKit
def keysP (ds:List Dv):Int:=ds.foldl (fun a d=>max a (d.hi - d.lo + 1)) 0
theorem keysP_take {ds:List Dv} {i:Nat} (h:i < ds.length):keysP (ds.take (i + 1))=max (keysP (ds.take i)) (ds[i].hi - ds[i].lo + 1):=by
 unfold keysP
 rw [List.take_succ_eq_append_getElem h,List.foldl_append]
 rfl
structure Small (S:Sp) (l:List Ev):Prop where
 ok:SpOk S
 len:l.length≤40∨20000 < l.length∧l.length≤20100
 few:(checkP S).2=0→(pipesP S).1 * keysP S.ds * (S.ss.length + 1)≤5000
def GreatE (S:Sp) (l:List Ev) (w:World) (e:Ending) (w':World):Prop:=∃ b,e = .returned (.bool b)∧(b=false→Small S l)∧Below w.heap.size w w'
theorem greatE_yes {S:Sp} {l:List Ev} {w w':World} (hb:Below w.heap.size w w'):GreatE S l w (.returned (.bool true)) w':=⟨true,rfl,(fun h=>by cases h),hb⟩
set_option maxRecDepth 100000 in
set_option maxHeartbeats 6400000 in
theorem great_any (v1 v2 v3 v4:Value) (S:Sp) (f:Nat→Value) (l:List Ev) (vl:Value) (w:World) (hsp:SpRd w v1 v2 v3 v4 f S) (hlv:ARd w vl 5 (l.map evC)) :
  Calls Tryz.prog 12 #[.agg #[v1,v2,v3,v4],vl] w (GreatE S l w):=by
 obtain ⟨al,cl,evl⟩:=hlv.evForm
 subst evl
 have hal:=(Below.refl _ w).alloc (Nat.le_refl w.heap.size) (.cells #[v1,v2,v3,v4] 27)
 have hk:=Blk.new w 27 #[v1,v2,v3,v4]
 have HFA:=Lib.hid (far_any v1 v2 v3 v4 S _ f (hsp.later hal))
 have HAL:=Lib.hid hal
 have HK:=Lib.hid hk
 have HSP:=Lib.hid hsp
 obtain ⟨s0,s1,s2,s3⟩:=hk.four
 clear hal hk hsp hlv
 go_enter Tryz.func12,Tryz.ntmps12
 go_wp2_with fail
 refine (HFA.out).mono ?_
 rintro e W ⟨b,rfl,hb0,hb⟩
 have HB1:=Lib.hid (below_step HAL.out hb)
 have HK1:=Lib.hid (HK.out.below hb)
 clear hb HFA HAL HK s0 s1 s2 s3
 cases b with
 | true =>
  go_wp2
  go_ret
  exact greatE_yes HB1.out
 | false =>
 have ok:=hb0 rfl
 have HOK:=Lib.hid ok
 have HRP:=Lib.hid (rpipes_any v1 v2 v3 v4 S ok W f (HSP.out.later HB1.out))
 clear hb0 ok
 by_cases g1:40 < l.length
 ·have q1:(40:Int) < (l.length:Int):=by omega
  have d1:decide ((40:Int) < (l.length:Int))=true:=decide_eq_true q1
  by_cases g2:l.length≤20000
  ·have q2:(l.length:Int)≤20000:=by omega
   go_wp2
   go_ret
   exact greatE_yes HB1.out
  have d2:decide ((l.length:Int)≤20000)=false:=decide_eq_false (by omega)
  by_cases g3:20100 < l.length
  ·have q3:(20100:Int) < (l.length:Int):=by omega
   go_wp2
   go_ret
   exact greatE_yes HB1.out
  have d3:decide ((20100:Int) < (l.length:Int))=false:=decide_eq_false (by omega)
  have HLE:RowKit.Hid (l.length≤40∨20000 < l.length∧l.length≤20100):=Lib.hid (.inr ⟨by omega,by omega⟩)
  clear q1 g1 g2 g3
  obtain ⟨u0,u1,u2,u3⟩:=HK1.out.four
  go_wp2_with fail
  refine (HRP.out).mono ?_
  rintro e W2 ⟨rfl,hb2⟩
  have HB2:=Lib.hid (below_step HB1.out hb2)
  have HK2:=Lib.hid (HK1.out.below hb2)
  clear hb2 HRP HK1 HB1 u0 u1 u2 u3
  by_cases hc:(checkP S).2=0
  case neg =>
   have HN:=Lib.hid (show GreatE S l w (.returned (.bool false)) W2 from ⟨false,rfl,fun _=>⟨HOK.out,HLE.out,fun h=>absurd h hc⟩,HB2.out⟩)
   obtain ⟨⟨pn,pe⟩,hpe⟩:∃ q,pipesP S=q:=⟨_,rfl⟩
   have hpe2:pe≠0:=by
    have:=congrArg Prod.snd hpe
    unfold pipesP at this
    rw [if_neg hc] at this
    simp only at this
    rw [← this]
    exact hc
   rw [hpe]
   have q9:(pe == 0)=false:=by simpa using hpe2
   clear hc hpe hpe2
   go_wp2
   go_ret
   exact HN.out
  have hsg:=spGood hc
  have hpe:pipesP S=(cntP S.rs,0):=if_pos hc
  obtain ⟨n0,n1⟩:=cntP_bound hsg.r
  have n2:=hsg.rs
  have n3:=hsg.ss
  have n4:=hsg.ds
  rw [hpe]
  obtain ⟨pn,hpn⟩:∃ pn,cntP S.rs=pn:=⟨_,rfl⟩
  rw [hpn] at hpe n0 n1 ⊢
  have HPE:=Lib.hid hpe
  have HSG:=Lib.hid hsg
  obtain ⟨⟨a1,c1,e1⟩,_,⟨a3,c3,e3⟩,_⟩:=HSP.out.forms
  subst e1 e3
  have HK0:RowKit.Hid (keysP (S.ds.take 0)=0):=Lib.hid rfl
  have HW0:=Lib.hid (Below.refl W2.heap.size W2)
  clear hc hsg hpe hpn
  go_wp2
  go_loopw [7,8] (fun k x wr=>∃ (i:Nat) (kk:Int),i≤S.ds.length∧x = .int .i64 i∧k = .int .i64 kk∧0≤kk∧kk≤61∧RowKit.Hid (keysP (S.ds.take i)=kk)∧RowKit.Hid (Below W2.heap.size W2 wr)) (fun _ x _=>S.ds.length - (intOf x).toNat)
  case atStart=>exact ⟨0,0,Nat.zero_le _,rfl,rfl,Int.le_refl _,by omega,HK0,HW0⟩
  clear HK0 HW0
  obtain ⟨i,kk,hi,rfl,rfl,hk0,hk1,hkk,hW⟩:=hrel
  have HKR:=Lib.hid (HK2.out.below hW.out)
  obtain ⟨t0,t1,t2,t3⟩:=HKR.out.four
  by_cases hil:i < S.ds.length
  ·have hi2:(i:Int) < (S.ds.length:Int):=by omega
   obtain ⟨b,o,c',ev,hbl,r0,r1,r2⟩:=(HSP.out.later (below_step HB2.out hW.out)).dAt i hil
   cases ev
   have hdk:=dv_ok (HSG.out.d _ (List.getElem_mem hil))
   have HKT:=Lib.hid (keysP_take hil)
   obtain ⟨lo,hlo⟩:∃ x,S.ds[i].lo=x:=⟨_,rfl⟩
   obtain ⟨hi',hhi⟩:∃ x,S.ds[i].hi=x:=⟨_,rfl⟩
   rw [hlo] at r1 hdk HKT
   rw [hhi] at r2 hdk HKT
   rw [hkk.out] at HKT
   have e4:IntKind.i64.wrap (hi' - lo)=hi' - lo:=IntWalk.i64_in _ (by omega)
   have e5:IntKind.i64.wrap (hi' - lo + 1)=hi' - lo + 1:=IntWalk.i64_in _ (by omega)
   have hdr:Below wr.heap.size wr wr.drew:=(Below.refl _ _).drew
   have HWD:=Lib.hid (below_step hW.out hdr)
   clear hlo hhi hkk hbl hdr r0
   have hmx:max kk (hi' - lo + 1)=if kk≤hi' - lo + 1 then hi' - lo + 1 else kk:=by
    rw [Int.max_def]
   have HMX:=Lib.hid hmx
   clear hmx
   go_upto_region 10 with fail
   go_region
   have hm0:0≤max kk (hi' - lo + 1):=Int.le_trans hk0 (Int.le_max_left _ _)
   have hm1:max kk (hi' - lo + 1)≤61:=Int.max_le.2 ⟨hk1,by omega⟩
   go_wp2
   go_roundw
   case rel=>exact ⟨i + 1,max kk (hi' - lo + 1),by omega,by go_num,rfl,hm0,hm1,HKT,HWD⟩
   case measure=>simp [intOf]; omega
  ·have hi2:¬ (i:Int) < (S.ds.length:Int):=by omega
   have hie:i=S.ds.length:=by omega
   have hkk2:=hkk.out
   rw [hie,List.take_length] at hkk2
   obtain ⟨m,hm⟩:∃ m:Int,(S.ss.length:Int) + 1=m:=⟨_,rfl⟩
   have hz0:0≤pn * kk:=Int.mul_nonneg n0 hk0
   have hz1:pn * kk≤3880 * 61:=Int.mul_le_mul (by omega) hk1 hk0 (by omega)
   obtain ⟨z,hz⟩:∃ z,pn * kk=z:=⟨_,rfl⟩
   rw [hz] at hz0 hz1
   have hy0:0≤z * m:=Int.mul_nonneg hz0 (by omega)
   have hy1:z * m≤3880 * 61 * 81:=Int.mul_le_mul hz1 (by omega) (by omega) (by omega)
   obtain ⟨y,hy⟩:∃ y,z * m=y:=⟨_,rfl⟩
   rw [hy] at hy0 hy1
   have e4:IntKind.i64.wrap (pn * kk)=z:=by rw [hz]; exact IntWalk.i64_in _ (by omega)
   have e5:IntKind.i64.wrap ((S.ss.length:Int) + 1)=m:=by rw [hm]; exact IntWalk.i64_in _ (by omega)
   have e6:IntKind.i64.wrap (z * m)=y:=by rw [hy]; exact IntWalk.i64_in _ (by omega)
   have HFW:=Lib.hid (show ¬ 5000 < y→(checkP S).2=0→(pipesP S).1 * keysP S.ds * (S.ss.length + 1)≤5000 from fun h _=>by rw [HPE.out,hkk2]; simp only; rw [hz,hm,hy]; omega)
   have HB9:=Lib.hid (below_step HB2.out hW.out)
   clear hz hm hy hie hkk2 hkk
   by_cases h5:5000 < y
   ·go_wp2
    go_ret
    exact ⟨true,by simp,(fun h=>by cases h),HB9.out⟩
   ·have d5:decide (5000 < y)=false:=decide_eq_false h5
    go_wp2
    go_ret
    exact ⟨false,by simp,(fun _=>⟨HOK.out,HLE.out,HFW.out h5⟩),HB9.out⟩
 ·have d1:decide ((40:Int) < (l.length:Int))=false:=decide_eq_false (by omega)
  have d3:decide ((20100:Int) < (l.length:Int))=false:=decide_eq_false (by omega)
  have HLE:RowKit.Hid (l.length≤40∨20000 < l.length∧l.length≤20100):=Lib.hid (.inl (by omega))
  clear g1
  obtain ⟨u0,u1,u2,u3⟩:=HK1.out.four
  go_wp2_with fail
  refine (HRP.out).mono ?_
  rintro e W2 ⟨rfl,hb2⟩
  have HB2:=Lib.hid (below_step HB1.out hb2)
  have HK2:=Lib.hid (HK1.out.below hb2)
  clear hb2 HRP HK1 HB1 u0 u1 u2 u3
  by_cases hc:(checkP S).2=0
  case neg =>
   have HN:=Lib.hid (show GreatE S l w (.returned (.bool false)) W2 from ⟨false,rfl,fun _=>⟨HOK.out,HLE.out,fun h=>absurd h hc⟩,HB2.out⟩)
   obtain ⟨⟨pn,pe⟩,hpe⟩:∃ q,pipesP S=q:=⟨_,rfl⟩
   have hpe2:pe≠0:=by
    have:=congrArg Prod.snd hpe
    unfold pipesP at this
    rw [if_neg hc] at this
    simp only at this
    rw [← this]
    exact hc
   rw [hpe]
   have q9:(pe == 0)=false:=by simpa using hpe2
   clear hc hpe hpe2
   go_wp2
   go_ret
   exact HN.out
  have hsg:=spGood hc
  have hpe:pipesP S=(cntP S.rs,0):=if_pos hc
  obtain ⟨n0,n1⟩:=cntP_bound hsg.r
  have n2:=hsg.rs
  have n3:=hsg.ss
  have n4:=hsg.ds
  rw [hpe]
  obtain ⟨pn,hpn⟩:∃ pn,cntP S.rs=pn:=⟨_,rfl⟩
  rw [hpn] at hpe n0 n1 ⊢
  have HPE:=Lib.hid hpe
  have HSG:=Lib.hid hsg
  obtain ⟨⟨a1,c1,e1⟩,_,⟨a3,c3,e3⟩,_⟩:=HSP.out.forms
  subst e1 e3
  have HK0:RowKit.Hid (keysP (S.ds.take 0)=0):=Lib.hid rfl
  have HW0:=Lib.hid (Below.refl W2.heap.size W2)
  clear hc hsg hpe hpn
  go_wp2
  go_loopw [7,8] (fun k x wr=>∃ (i:Nat) (kk:Int),i≤S.ds.length∧x = .int .i64 i∧k = .int .i64 kk∧0≤kk∧kk≤61∧RowKit.Hid (keysP (S.ds.take i)=kk)∧RowKit.Hid (Below W2.heap.size W2 wr)) (fun _ x _=>S.ds.length - (intOf x).toNat)
  case atStart=>exact ⟨0,0,Nat.zero_le _,rfl,rfl,Int.le_refl _,by omega,HK0,HW0⟩
  clear HK0 HW0
  obtain ⟨i,kk,hi,rfl,rfl,hk0,hk1,hkk,hW⟩:=hrel
  have HKR:=Lib.hid (HK2.out.below hW.out)
  obtain ⟨t0,t1,t2,t3⟩:=HKR.out.four
  by_cases hil:i < S.ds.length
  ·have hi2:(i:Int) < (S.ds.length:Int):=by omega
   obtain ⟨b,o,c',ev,hbl,r0,r1,r2⟩:=(HSP.out.later (below_step HB2.out hW.out)).dAt i hil
   cases ev
   have hdk:=dv_ok (HSG.out.d _ (List.getElem_mem hil))
   have HKT:=Lib.hid (keysP_take hil)
   obtain ⟨lo,hlo⟩:∃ x,S.ds[i].lo=x:=⟨_,rfl⟩
   obtain ⟨hi',hhi⟩:∃ x,S.ds[i].hi=x:=⟨_,rfl⟩
   rw [hlo] at r1 hdk HKT
   rw [hhi] at r2 hdk HKT
   rw [hkk.out] at HKT
   have e4:IntKind.i64.wrap (hi' - lo)=hi' - lo:=IntWalk.i64_in _ (by omega)
   have e5:IntKind.i64.wrap (hi' - lo + 1)=hi' - lo + 1:=IntWalk.i64_in _ (by omega)
   have hdr:Below wr.heap.size wr wr.drew:=(Below.refl _ _).drew
   have HWD:=Lib.hid (below_step hW.out hdr)
   clear hlo hhi hkk hbl hdr r0
   have hmx:max kk (hi' - lo + 1)=if kk≤hi' - lo + 1 then hi' - lo + 1 else kk:=by
    rw [Int.max_def]
   have HMX:=Lib.hid hmx
   clear hmx
   go_upto_region 10 with fail
   go_region
   have hm0:0≤max kk (hi' - lo + 1):=Int.le_trans hk0 (Int.le_max_left _ _)
   have hm1:max kk (hi' - lo + 1)≤61:=Int.max_le.2 ⟨hk1,by omega⟩
   go_wp2
   go_roundw
   case rel=>exact ⟨i + 1,max kk (hi' - lo + 1),by omega,by go_num,rfl,hm0,hm1,HKT,HWD⟩
   case measure=>simp [intOf]; omega
  ·have hi2:¬ (i:Int) < (S.ds.length:Int):=by omega
   have hie:i=S.ds.length:=by omega
   have hkk2:=hkk.out
   rw [hie,List.take_length] at hkk2
   obtain ⟨m,hm⟩:∃ m:Int,(S.ss.length:Int) + 1=m:=⟨_,rfl⟩
   have hz0:0≤pn * kk:=Int.mul_nonneg n0 hk0
   have hz1:pn * kk≤3880 * 61:=Int.mul_le_mul (by omega) hk1 hk0 (by omega)
   obtain ⟨z,hz⟩:∃ z,pn * kk=z:=⟨_,rfl⟩
   rw [hz] at hz0 hz1
   have hy0:0≤z * m:=Int.mul_nonneg hz0 (by omega)
   have hy1:z * m≤3880 * 61 * 81:=Int.mul_le_mul hz1 (by omega) (by omega) (by omega)
   obtain ⟨y,hy⟩:∃ y,z * m=y:=⟨_,rfl⟩
   rw [hy] at hy0 hy1
   have e4:IntKind.i64.wrap (pn * kk)=z:=by rw [hz]; exact IntWalk.i64_in _ (by omega)
   have e5:IntKind.i64.wrap ((S.ss.length:Int) + 1)=m:=by rw [hm]; exact IntWalk.i64_in _ (by omega)
   have e6:IntKind.i64.wrap (z * m)=y:=by rw [hy]; exact IntWalk.i64_in _ (by omega)
   have HFW:=Lib.hid (show ¬ 5000 < y→(checkP S).2=0→(pipesP S).1 * keysP S.ds * (S.ss.length + 1)≤5000 from fun h _=>by rw [HPE.out,hkk2]; simp only; rw [hz,hm,hy]; omega)
   have HB9:=Lib.hid (below_step HB2.out hW.out)
   clear hz hm hy hie hkk2 hkk
   by_cases h5:5000 < y
   ·go_wp2
    go_ret
    exact ⟨true,by simp,(fun h=>by cases h),HB9.out⟩
   ·have d5:decide (5000 < y)=false:=decide_eq_false h5
    go_wp2
    go_ret
    exact ⟨false,by simp,(fun _=>⟨HOK.out,HLE.out,HFW.out h5⟩),HB9.out⟩
end Go.Proofs.YthhfmppealmblaaGreatDoor
namespace Go.Proofs.YthhfmppealmblaaGreatDoor
open Go.RowKit
theorem twp_len {S:Sp} {B:(Th→Int)→Pp→Bool} {a b:List Ev} {m:List Fa} {c:Int} (h:TwP S B a b m c):m.length≤1000000:=by
 rcases h with ⟨_,rfl,_⟩ | ⟨_,⟨_,rfl,_⟩ | ⟨h1,h2,_⟩⟩
 ·exact Nat.zero_le _
 ·exact Nat.zero_le _
 ·have:=h2.length_eq
  omega
set_option maxRecDepth 100000 in
set_option maxHeartbeats 6400000 in
theorem auditCompares_walk (v1 v2 v3 v4:Value) (S:Sp) (la:List Ev) (va:Value) (lb:List Ev) (vb:Value) (w:World) (t:Tabs w) (f:Nat→Value) (hsp:SpRd w v1 v2 v3 v4 f S) (hla:ARd w va 5 (la.map evC)) (hlb:ARd w vb 5 (lb.map evC)) :
  Calls Tryz.prog 6 #[.agg #[v1,v2,v3,v4],va,vb] w (BoR true w):=by
 obtain ⟨B,hB⟩:=sndIs_ex S
 obtain ⟨aa,ca,eva⟩:=hla.evForm
 subst eva
 obtain ⟨ab,cb,evb⟩:=hlb.evForm
 subst evb
 have hal:=(Below.refl _ w).alloc (Nat.le_refl w.heap.size) (.cells #[v1,v2,v3,v4] 27)
 have hk:=Blk.new w 27 #[v1,v2,v3,v4]
 have HGR:=Lib.hid (great_any v1 v2 v3 v4 S f la (.slice aa la.length ca) _ (hsp.later hal) (hla.later hal))
 have HGR2:=Lib.hid (fun (W:World) (hb:Below w.heap.size w W)=>great_any v1 v2 v3 v4 S f lb (.slice ab lb.length cb) W (hsp.later hb) (hlb.later hb))
 have HAW:=Lib.hid (fun (W:World) (hb:Below w.heap.size w W)=>awake_any W (t.below hb))
 have HT:=Lib.hid t
 have HAL:=Lib.hid hal
 have HK:=Lib.hid hk
 have HSP:=Lib.hid hsp
 have HLA:=Lib.hid hla
 have HLB:=Lib.hid hlb
 have HSB:=Lib.hid hB
 obtain ⟨s0,s1,s2,s3⟩:=hk.four
 clear t hal hk hsp hla hlb hB
 go_enter Tryz.func6,Tryz.ntmps6
 go_wp2_with fail
 refine (HGR.out).mono ?_
 rintro e W ⟨b,rfl,hb0,hb⟩
 have HB1:=Lib.hid (below_step HAL.out hb)
 have HK1:=Lib.hid (HK.out.below hb)
 clear hb HGR HAL HK s0 s1 s2 s3
 cases b with
 | true =>
  clear hb0
  go_wp2_with fail
  refine (HAW.out _ HB1.out).mono ?_
  rintro e W9 ⟨rfl,hb9⟩
  have HB9:=Lib.hid (below_step HB1.out hb9)
  clear hb9
  go_wp2
  go_ret
  exact ⟨rfl,HB9.out⟩
 | false =>
 have HSM:=Lib.hid (hb0 rfl)
 clear hb0
 obtain ⟨s0,s1,s2,s3⟩:=HK1.out.four
 go_wp2_with fail
 refine (HGR2.out W HB1.out).mono ?_
 rintro e W1 ⟨b,rfl,hb0,hb⟩
 have HB2:=Lib.hid (below_step HB1.out hb)
 have HK2:=Lib.hid (HK1.out.below hb)
 clear hb HGR2 HB1 HK1 s0 s1 s2 s3
 cases b with
 | true =>
  clear hb0
  go_wp2_with fail
  refine (HAW.out _ HB2.out).mono ?_
  rintro e W9 ⟨rfl,hb9⟩
  have HB9:=Lib.hid (below_step HB2.out hb9)
  clear hb9
  go_wp2
  go_ret
  exact ⟨rfl,HB9.out⟩
 | false =>
 have HSM2:=Lib.hid (hb0 rfl)
 clear hb0
 have hlen:=HSM.out.len
 have hlen2:=HSM2.out.len
 have hl50:la.length≤50000:=by omega
 have hl52:lb.length≤50000:=by omega
 have hsm:audE S la=0→la.length≤100:=fun h=>by have:=(audE_ok h).len; omega
 have hsm2:audE S lb=0→lb.length≤100:=fun h=>by have:=(audE_ok h).len; omega
 have HAC:=Lib.hid (acompare_any v1 v2 v3 v4 S HSM.out.ok f la (.slice aa la.length ca) lb (.slice ab lb.length cb) B HSB.out W1 (HT.out.below HB2.out) (HSP.out.later HB2.out) (HLA.out.later HB2.out) (HLB.out.later HB2.out) hl50 hl52)
 have HRC:=Lib.hid (fun (W2:World) (hb:Below w.heap.size w W2)=>compare34_any v1 v2 v3 v4 S HSM.out.ok f la (.slice aa la.length ca) lb (.slice ab lb.length cb) B HSB.out W2 (HSP.out.later hb) (HLA.out.later hb) (HLB.out.later hb) hl50 hl52 hsm hsm2)
 clear hlen hlen2 hl50 hl52 hsm hsm2
 obtain ⟨u0,u1,u2,u3⟩:=HK2.out.four
 go_wp2_with fail
 refine (HAC.out).mono ?_
 rintro e W2 ⟨va,m,c,rfl,hra,hca,hb2⟩
 have HB3:=Lib.hid (below_step HB2.out hb2)
 have HK3:=Lib.hid (HK2.out.below hb2)
 have HFA:=Lib.hid (ARd.of_fas hra)
 have HCA:=Lib.hid hca
 clear hra hca hb2 HAC u0 u1 u2 u3 HK2 HB2
 obtain ⟨u0,u1,u2,u3⟩:=HK3.out.four
 go_wp2_with fail
 refine (HRC.out W2 HB3.out).mono ?_
 rintro e W3 ⟨vb,m',c',rfl,hrb,hcb,hb3⟩
 obtain ⟨rfl,rfl⟩:=TwP.one HCA.out hcb
 have HB4:=Lib.hid (below_step HB3.out hb3)
 have HSA:=Lib.hid (same_any m m va vb W3 (HFA.out.later hb3) (ARd.of_fas hrb) (twp_len HCA.out))
 rw [decide_eq_true rfl] at HSA
 clear hrb hcb hb3 HRC u0 u1 u2 u3 HK3 HFA HCA HB3
 go_wp2_with fail
 refine (HSA.out).mono ?_
 rintro e W4 ⟨rfl,hb4⟩
 have HB5:=Lib.hid (below_step HB4.out hb4)
 have q9:(c == c)=true:=by simp
 clear hb4 HSA
 go_wp2_with fail
 refine (HAW.out _ HB5.out).mono ?_
 rintro e W9 ⟨rfl,hb9⟩
 have HB9:=Lib.hid (below_step HB5.out hb9)
 clear hb9
 go_wp2
 go_ret
 exact ⟨rfl,HB9.out⟩
end Go.Proofs.YthhfmppealmblaaGreatDoor
namespace Go.Proofs.YthhfmppealmblaaGreatDoor
open Go.ChangeShapes Go.WideShapes Go.RowKit Go.Deep
theorem spot_none {w:World} {a:Addr} {v:Value} (h:w.cell? a=some v):a=⟨a.block,a.off,none⟩:=by
 obtain ⟨b,o,s⟩:=a
 cases s with
 | none=>rfl
 | some x =>
  unfold World.cell? at h
  split at h
  ·simp at h
  ·cases h
theorem add_at (b o n:Nat):(⟨b,o,none⟩:Addr).add n=⟨b,o + n,none⟩:=by
 unfold Addr.add
 split
 ·next h=>subst h; rfl
 ·rfl
theorem wf_i64 {a:Int} (h:(Lit.int .i64 a).wf=true):i64 a:=by
 have h2:IntKind.i64.min≤a∧a≤IntKind.i64.max:=by simpa only [Lit.wf,Bool.and_eq_true,decide_eq_true_eq] using h
 have e1:IntKind.i64.min = -9223372036854775808:=rfl
 have e2:IntKind.i64.max=9223372036854775807:=rfl
 unfold i64
 omega
section
variable {H : Type} {enc : TypeId × Value → H} {P : Program} {w : World} {base : Nat} {spare : Nat → Bool} {held : Bool}
theorem fld {t:TypeId} {fs:Array Field} {n:Nat} {cs:List Value} {y:DataW H × List MemPlace} (ht:P.underlying t=some (.struct fs)) (h:DataW.trod enc P w base spare held n t cs=some y) (i:Nat) (f:Field) (hf:fs[i]?=some f) :
  ∃ (m:Nat) (z:DataW H × List MemPlace),DataW.trod enc P w base spare held m f.type ((cs.drop f.offset).take (P.cellsOf f.type))=some z:=by
 obtain ⟨xs,m,_,_,_,hl,hx⟩:=DataW.trod_struct ht h
 have hi:=(Array.getElem?_eq_some_iff.1 hf).1
 exact ⟨m,_,(hx i f hf).trans (List.getElem?_eq_getElem (by omega))⟩
theorem fld_int {t:TypeId} {fs:Array Field} {n:Nat} {cs:List Value} {y:DataW H × List MemPlace} (ht:P.underlying t=some (.struct fs)) (h:DataW.trod enc P w base spare held n t cs=some y) (i:Nat) (f:Field) (hf:fs[i]?=some f)
  (hu:P.underlying f.type=some (.int .i64)):∃ z:Int,cs[f.offset]?=some (.int .i64 z)∧i64 z:=by
 obtain ⟨m,z,hz⟩:=fld ht h i f hf
 obtain ⟨k,hk,_,hw⟩:=DataW.trod_int hu hz
 refine ⟨k,?_,wf_i64 hw⟩
 have h0:((cs.drop f.offset).take (P.cellsOf f.type))[0]?=some (.int .i64 k):=by rw [hk]; rfl
 rw [List.getElem?_take] at h0
 split at h0
 ·rw [List.getElem?_drop,Nat.add_zero] at h0; exact h0
 ·cases h0
theorem fld_string {t:TypeId} {fs:Array Field} {n:Nat} {cs:List Value} {y:DataW H × List MemPlace} (ht:P.underlying t=some (.struct fs)) (h:DataW.trod enc P w base spare held n t cs=some y) (i:Nat) (f:Field) (hf:fs[i]?=some f)
  (hu:P.underlying f.type=some .string):∃ z:ByteArray,cs[f.offset]?=some (.string z):=by
 obtain ⟨m,z,hz⟩:=fld ht h i f hf
 obtain ⟨k,hk,_,hw⟩:=DataW.trod_string hu hz
 refine ⟨k,?_⟩
 have h0:((cs.drop f.offset).take (P.cellsOf f.type))[0]?=some (.string k):=by rw [hk]; rfl
 rw [List.getElem?_take] at h0
 split at h0
 ·rw [List.getElem?_drop,Nat.add_zero] at h0; exact h0
 ·cases h0
theorem fld_bool {t:TypeId} {fs:Array Field} {n:Nat} {cs:List Value} {y:DataW H × List MemPlace} (ht:P.underlying t=some (.struct fs)) (h:DataW.trod enc P w base spare held n t cs=some y) (i:Nat) (f:Field) (hf:fs[i]?=some f)
  (hu:P.underlying f.type=some .bool):∃ z:Bool,cs[f.offset]?=some (.bool z):=by
 obtain ⟨m,z,hz⟩:=fld ht h i f hf
 obtain ⟨k,hk,_⟩:=DataW.trod_bool hu hz
 refine ⟨k,?_⟩
 have h0:((cs.drop f.offset).take (P.cellsOf f.type))[0]?=some (.bool k):=by rw [hk]; rfl
 rw [List.getElem?_take] at h0
 split at h0
 ·rw [List.getElem?_drop,Nat.add_zero] at h0; exact h0
 ·cases h0
theorem fld_two {t:TypeId} {fs gs:Array Field} {n:Nat} {cs:List Value} {y:DataW H × List MemPlace} (ht:P.underlying t=some (.struct fs)) (h:DataW.trod enc P w base spare held n t cs=some y) (i:Nat) (f f0 f1:Field) (hf:fs[i]?=some f)
  (hu:P.underlying f.type=some (.struct gs)) (h0:gs[0]?=some f0) (h1:gs[1]?=some f1) (u0:P.underlying f0.type=some (.int .i64)) (u1:P.underlying f1.type=some (.int .i64)) :
  ∃ a b:Int,cs[f.offset + f0.offset]?=some (.int .i64 a)∧cs[f.offset + f1.offset]?=some (.int .i64 b)∧i64 a∧i64 b:=by
 obtain ⟨m,z,hz⟩:=fld ht h i f hf
 obtain ⟨a,ha,wa⟩:=fld_int hu hz 0 f0 h0 u0
 obtain ⟨b,hb,wb⟩:=fld_int hu hz 1 f1 h1 u1
 refine ⟨a,b,?_,?_,wa,wb⟩
 ·rw [List.getElem?_take] at ha
  split at ha
  ·rw [List.getElem?_drop] at ha; exact ha
  ·cases ha
 ·rw [List.getElem?_take] at hb
  split at hb
  ·rw [List.getElem?_drop] at hb; exact hb
  ·cases hb
theorem len_struct {t:TypeId} {fs:Array Field} {n:Nat} {cs:List Value} {y:DataW H × List MemPlace} (ht:P.underlying t=some (.struct fs)) (h:DataW.trod enc P w base spare held n t cs=some y):cs.length=P.cellsOf t:=by
 obtain ⟨xs,m,_,_,hl,_⟩:=DataW.trod_struct ht h
 exact hl
theorem slice_rows {α:Type} {t e:TypeId} {fuel k:Nat} {cs:List Value} {x:DataW H × List MemPlace} (cells:α→List Value) (Good:α→Prop) (ht:P.underlying t=some (.slice e)) (hC:P.cellsOf e=k) (hk:0 < k)
  (each:∀ n cs' y,DataW.trod enc P w base spare held n e cs'=some y→∃ r:α,cs'=cells r∧Good r) (h:DataW.trod enc P w base spare held fuel t cs=some x) :
  ∃ (v:Value) (rows:List α),cs=[v]∧ARd w v k (rows.map cells)∧∀ r∈rows,Good r:=by
 rcases open_slice ht h with ⟨hc,_⟩ | ⟨a,len,cap,m,n,D,Pl,hc,_,hlc,_,hm,_,hi⟩
 ·exact ⟨_,[],hc,⟨none,0,rfl,fun i h=>absurd h (Nat.not_lt_zero i)⟩,fun r h=>by cases h⟩
 ·rw [hC] at hi
  have hml:len≤m:=by rw [hm]; split <;> omega
  have pick:∀ i:Fin len,∃ r:α,w.cells? base (a.add (i.val * k)) k=some (cells r)∧Good r:=fun i=>by
   obtain ⟨cs',h1,h2⟩:=hi i.val (by omega)
   obtain ⟨r,hr,hg⟩:=each _ _ _ h2
   exact ⟨r,by rw [h1,hr],hg⟩
  obtain ⟨rows,hlen,hrow⟩:∃ rows:List α,rows.length=len∧∀ i (h:i < rows.length),w.cells? base (a.add (i * k)) k=some (cells rows[i])∧Good rows[i]:=by
   refine ⟨List.ofFn fun i:Fin len=>Classical.choose (pick i),by simp,fun i h=>?_⟩
   have hil:i < len:=by simpa using h
   simp only [List.getElem_ofFn]
   exact Classical.choose_spec (pick ⟨i,hil⟩)
  refine ⟨_,rows,hc,⟨some a,cap,by simp [hlen],fun i hi'=>?_⟩,fun r hr=>?_⟩
  ·have hil:i < rows.length:=by simpa using hi'
   obtain ⟨_,hl,hcell⟩:=World.cells?_some (hrow i hil).1
   obtain ⟨_,hl0,hcell0⟩:=World.cells?_some (hrow 0 (by omega)).1
   have h1:=hcell0 0 hk
   rw [Nat.zero_mul] at h1
   obtain ⟨u0,hu0⟩:∃ u,(cells rows[0])[0]?=some u:=⟨_,List.getElem?_eq_getElem (show 0 < (cells rows[0]).length by omega)⟩
   rw [hu0] at h1
   have h1:w.cell? a=some u0:=h1
   have hs:=spot_none h1
   refine ⟨a.block,a.off,by rw [← hs],cell_size h1,fun j u hj=>?_⟩
   rw [List.getElem_map] at hj
   have hjk:j < k:=by
    have:=(List.getElem?_eq_some_iff.1 hj).1
    omega
   have h2:=hcell j hjk
   rw [hs,add_at,add_at] at h2
   rw [h2]
   exact hj
  ·obtain ⟨i,hi',rfl⟩:=List.mem_iff_getElem.1 hr
   exact (hrow i hi').2
end
theorem list3 {cs:List Value} {a b c:Value} (hl:cs.length=3) (h0:cs[0]?=some a) (h1:cs[1]?=some b) (h2:cs[2]?=some c):cs=[a,b,c]:=by
 match cs,hl with
 | [_,_,_],_=>simp at h0 h1 h2; rw [h0,h1,h2]
theorem list4 {cs:List Value} {a b c d:Value} (hl:cs.length=4) (h0:cs[0]?=some a) (h1:cs[1]?=some b) (h2:cs[2]?=some c) (h3:cs[3]?=some d):cs=[a,b,c,d]:=by
 match cs,hl with
 | [_,_,_,_],_=>simp at h0 h1 h2 h3; rw [h0,h1,h2,h3]
theorem list5 {cs:List Value} {a b c d e:Value} (hl:cs.length=5) (h0:cs[0]?=some a) (h1:cs[1]?=some b) (h2:cs[2]?=some c) (h3:cs[3]?=some d) (h4:cs[4]?=some e):cs=[a,b,c,d,e]:=by
 match cs,hl with
 | [_,_,_,_,_],_=>simp at h0 h1 h2 h3 h4; rw [h0,h1,h2,h3,h4]
theorem list6 {cs:List Value} {a b c d e f:Value} (hl:cs.length=6) (h0:cs[0]?=some a) (h1:cs[1]?=some b) (h2:cs[2]?=some c) (h3:cs[3]?=some d) (h4:cs[4]?=some e) (h5:cs[5]?=some f):cs=[a,b,c,d,e,f]:=by
 match cs,hl with
 | [_,_,_,_,_,_],_=>simp at h0 h1 h2 h3 h4 h5; rw [h0,h1,h2,h3,h4,h5]
section
variable {H : Type} {enc : TypeId × Value → H} {W : World} {base : Nat} {spare : Nat → Bool} {held : Bool}
theorem cO_dv:Tryz.prog.cellsOf 84=3:=by kernel_rfl
theorem cO_rk:Tryz.prog.cellsOf 107=6:=by kernel_rfl
theorem cO_st:Tryz.prog.cellsOf 151=5:=by kernel_rfl
theorem cO_pt:Tryz.prog.cellsOf 148=4:=by kernel_rfl
theorem cO_cp:Tryz.prog.cellsOf 153=6:=by kernel_rfl
theorem dv_open (n:Nat) (cs:List Value) (y:DataW H × List MemPlace) (h:DataW.trod enc Tryz.prog W base spare held n 84 cs=some y):∃ d:Dv,cs=dvC d∧i64 d.lo∧i64 d.hi:=by
 have hl:=(len_struct Tryz.underlying84 h).trans cO_dv
 obtain ⟨a,ha⟩:=fld_string Tryz.underlying84 h 0 _ rfl Tryz.underlying9
 obtain ⟨b,hb,wb⟩:=fld_int Tryz.underlying84 h 1 _ rfl Tryz.underlying3
 obtain ⟨c,hc,wc⟩:=fld_int Tryz.underlying84 h 2 _ rfl Tryz.underlying3
 exact ⟨⟨a,b,c⟩,list3 hl ha hb hc,wb,wc⟩
theorem pt_open (n:Nat) (cs:List Value) (y:DataW H × List MemPlace) (h:DataW.trod enc Tryz.prog W base spare held n 148 cs=some y):∃ p:Pt,cs=ptC p∧i64 p.rank∧i64 p.shift∧i64 p.lo∧i64 p.hi:=by
 have hl:=(len_struct Tryz.underlying148 h).trans cO_pt
 obtain ⟨a,ha,wa⟩:=fld_int Tryz.underlying148 h 0 _ rfl Tryz.underlying3
 obtain ⟨b,hb,wb⟩:=fld_int Tryz.underlying148 h 1 _ rfl Tryz.underlying3
 obtain ⟨c,hc,wc⟩:=fld_int Tryz.underlying148 h 2 _ rfl Tryz.underlying3
 obtain ⟨d,hd,wd⟩:=fld_int Tryz.underlying148 h 3 _ rfl Tryz.underlying3
 exact ⟨⟨a,b,c,d⟩,list4 hl ha hb hc hd,wa,wb,wc,wd⟩
theorem rk_open (n:Nat) (cs:List Value) (y:DataW H × List MemPlace) (h:DataW.trod enc Tryz.prog W base spare held n 107 cs=some y):∃ r:Rk,cs=rkC r∧i64 r.kind∧i64 r.num∧i64 r.den∧i64 r.low∧i64 r.cnt:=by
 have hl:=(len_struct Tryz.underlying107 h).trans cO_rk
 obtain ⟨a,ha⟩:=fld_string Tryz.underlying107 h 0 _ rfl Tryz.underlying9
 obtain ⟨b,hb,wb⟩:=fld_int Tryz.underlying107 h 1 _ rfl Tryz.underlying3
 obtain ⟨c,d,hc,hd,wc,wd⟩:=fld_two Tryz.underlying107 h 2 _ _ _ rfl Tryz.underlying105 rfl rfl Tryz.underlying3 Tryz.underlying3
 obtain ⟨e,he,we⟩:=fld_int Tryz.underlying107 h 3 _ rfl Tryz.underlying3
 obtain ⟨f,hf,wf⟩:=fld_int Tryz.underlying107 h 4 _ rfl Tryz.underlying3
 exact ⟨⟨a,b,c,d,e,f⟩,list6 hl ha hb hc hd he hf,wb,wc,wd,we,wf⟩
theorem cp_open (n:Nat) (cs:List Value) (y:DataW H × List MemPlace) (h:DataW.trod enc Tryz.prog W base spare held n 153 cs=some y):∃ r:Cp,cs=cpC r∧i64 r.frm∧i64 r.to∧i64 r.shift∧i64 r.only:=by
 have hl:=(len_struct Tryz.underlying153 h).trans cO_cp
 obtain ⟨a,ha⟩:=fld_string Tryz.underlying153 h 0 _ rfl Tryz.underlying9
 obtain ⟨b,hb,wb⟩:=fld_int Tryz.underlying153 h 1 _ rfl Tryz.underlying3
 obtain ⟨c,hc,wc⟩:=fld_int Tryz.underlying153 h 2 _ rfl Tryz.underlying3
 obtain ⟨d,hd,wd⟩:=fld_int Tryz.underlying153 h 3 _ rfl Tryz.underlying3
 obtain ⟨e,he,we⟩:=fld_int Tryz.underlying153 h 4 _ rfl Tryz.underlying3
 obtain ⟨f,hf⟩:=fld_bool Tryz.underlying153 h 5 _ rfl Tryz.underlying4
 exact ⟨⟨a,b,c,d,e,f⟩,list6 hl ha hb hc hd he hf,wb,wc,wd,we⟩
theorem st_open (n:Nat) (cs:List Value) (y:DataW H × List MemPlace) (h:DataW.trod enc Tryz.prog W base spare held n 151 cs=some y) :
  ∃ r:St × Value,cs=stC r.1 r.2∧i64 r.1.div∧i64 r.1.num∧i64 r.1.den∧ARd W r.2 4 (r.1.parts.map ptC)∧∀ p∈r.1.parts,i64 p.rank∧i64 p.shift∧i64 p.lo∧i64 p.hi:=by
 have hl:=(len_struct Tryz.underlying151 h).trans cO_st
 obtain ⟨a,ha⟩:=fld_string Tryz.underlying151 h 0 _ rfl Tryz.underlying9
 obtain ⟨b,hb,wb⟩:=fld_int Tryz.underlying151 h 1 _ rfl Tryz.underlying3
 obtain ⟨c,d,hc,hd,wc,wd⟩:=fld_two Tryz.underlying151 h 2 _ _ _ rfl Tryz.underlying105 rfl rfl Tryz.underlying3 Tryz.underlying3
 obtain ⟨m,z,hz⟩:=fld Tryz.underlying151 h 3 _ rfl
 obtain ⟨v,ps,hv,hps,hg⟩:=slice_rows ptC (fun p=>i64 p.rank∧i64 p.shift∧i64 p.lo∧i64 p.hi) Tryz.underlying149 cO_pt (by omega) pt_open hz
 have h4:cs[4]?=some v:=by
  have h0:=congrArg (fun l=>l[0]?) hv
  simp only [List.getElem?_take] at h0
  split at h0
  ·rw [List.getElem?_drop] at h0; exact h0
  ·cases h0
 exact ⟨(⟨a,b,c,d,ps⟩,v),list5 hl ha hb hc hd h4,wb,wc,wd,hps,hg⟩
set_option maxRecDepth 100000 in
theorem spec_open {b0:Nat} {r:Reach} {v:Value} {d:DataW H} {p:List MemPlace} (hv:Value.okWide Tryz.prog W r b0 27 v) (h:DataW.Trod enc Tryz.prog W base spare held 27 v d p) :
  ∃ (v1 v2 v3 v4:Value) (S:Sp) (f:Nat→Value),v = .agg #[v1,v2,v3,v4]∧SpRd W v1 v2 v3 v4 f S∧SpInt S:=by
 obtain ⟨v1,v2,v3,v4,y1,y2,y3,y4,n,rfl,_,_,e1,e2,e3,e4⟩:=Go.Joins.open_agg4 Tryz.underlying27 (by kernel_rfl) (by kernel_rfl) hv h
 obtain ⟨u1,ds,h1,r1,g1⟩:=slice_rows dvC (fun d=>i64 d.lo∧i64 d.hi) Tryz.underlying22 cO_dv (by omega) dv_open e1
 obtain ⟨u2,rs,h2,r2,g2⟩:=slice_rows rkC (fun r=>i64 r.kind∧i64 r.num∧i64 r.den∧i64 r.low∧i64 r.cnt) Tryz.underlying23 cO_rk (by omega) rk_open e2
 obtain ⟨u3,ss,h3,r3,g3⟩:=slice_rows (fun r:St × Value=>stC r.1 r.2) (fun r=>i64 r.1.div∧i64 r.1.num∧i64 r.1.den∧ARd W r.2 4 (r.1.parts.map ptC)∧∀ p∈r.1.parts,i64 p.rank∧i64 p.shift∧i64 p.lo∧i64 p.hi) Tryz.underlying24 cO_st (by omega) st_open e3
 obtain ⟨u4,cps,h4,r4,g4⟩:=slice_rows cpC (fun r=>i64 r.frm∧i64 r.to∧i64 r.shift∧i64 r.only) Tryz.underlying25 cO_cp (by omega) cp_open e4
 obtain rfl:v1=u1:=by simpa using h1
 obtain rfl:v2=u2:=by simpa using h2
 obtain rfl:v3=u3:=by simpa using h3
 obtain rfl:v4=u4:=by simpa using h4
 refine ⟨v1,v2,v3,v4,⟨ds,rs,ss.map (fun r=>r.1),cps⟩,fun i=>(ss.map (fun r=>r.2)).getD i (.int .i64 0),rfl,⟨r1,r2,?_,r4,?_⟩,?_⟩
 ·have e:((ss.map (fun r:St × Value=>r.1)).mapIdx fun i x=>stC x ((ss.map (fun r:St × Value=>r.2)).getD i (.int .i64 0)))=ss.map fun r=>stC r.1 r.2:=by
   apply List.ext_getElem
   ·simp
   ·intro i h1 h2
    have hi:i < ss.length:=by simpa using h2
    simp [hi]
  show ARd W v3 5 ((ss.map (fun r:St × Value=>r.1)).mapIdx _)
  rw [e]
  exact r3
 ·intro i hi
  have hi':i < ss.length:=by simpa using hi
  have hg:=(g3 ss[i] (List.getElem_mem hi')).2.2.2.1
  have e1:((ss.map (fun r:St × Value=>r.2)).getD i (.int .i64 0))=ss[i].2:=by simp [hi']
  have e2:(ss.map (fun r:St × Value=>r.1))[i]'hi=ss[i].1:=by simp
  show ARd W ((ss.map (fun r:St × Value=>r.2)).getD i (.int .i64 0)) 4 (((ss.map (fun r:St × Value=>r.1))[i]'hi).parts.map ptC)
  rw [e1,e2]
  exact hg
 ·refine ⟨g1,g2,fun x hx=>?_,fun x hx p hp=>?_,g4⟩
  ·obtain ⟨r,hr,rfl⟩:=List.mem_map.1 hx
   exact ⟨(g3 r hr).1,(g3 r hr).2.1,(g3 r hr).2.2.1⟩
  ·obtain ⟨r,hr,rfl⟩:=List.mem_map.1 hx
   exact (g3 r hr).2.2.2.2 p hp
end
end Go.Proofs.YthhfmppealmblaaGreatDoor
namespace Go.Proofs.YthhfmppealmblaaGreatDoor
open Go.ChangeShapes Go.WideShapes Go.ChangeAt Go.ChangeMaps Go.RowKit
theorem own:ownKnob Tryz.prog.godebug=none:=by kernel_rfl
theorem lays:laidOutB Tryz.prog=true:=by kernel_rfl
theorem gPow:Tryz.prog.globalNamed "internal/strconv.uint64pow10"=some 0:=by kernel_rfl
theorem yPow:(Tryz.prog.globals[0]?).map (·.type)=some 281:=by kernel_rfl
theorem cPow:Tryz.prog.cellsOf 281=20:=by kernel_rfl
theorem cPow1:Tryz.prog.cellsOf 229=1:=by kernel_rfl
def listT:List (String × DataW Unit):=Rows.auditClaimsRow.laid
theorem tabsT {W:World} (h:laidMetH Tryz.prog listT W):Tabs W where
 pow:=by
  rw [MakeChecks.laidMetH_plain _ _ _ (by kernel_rfl)] at h
  exact Lib.tabIs_of_head gPow yPow Tryz.underlying281 Tryz.underlying229 cPow1 cPow (h.tail.tail)
noncomputable def laidWorld (os:Os):World:=World.doorLaid Tryz.prog 80 os
theorem metT (os:Os) (args:Array Value):laidMet Tryz.prog listT ((laidWorld os).forCall (fun _ _=>0) ⟨#[],args,[]⟩).memory :=
 laidMet_of_run' 8 (by kernel_rfl) (by kernel_rfl)
theorem hasO (os:Os) (args:Array Value):((laidWorld os).forCall (fun _ _=>0) ⟨#[],args,[]⟩).variablesRefB Tryz.prog=true:=by kernel_rfl
theorem restT (os:Os) (args:Array Value):((((laidWorld os).forCall (fun _ _=>0) ⟨#[],args,[]⟩).heap.toList.drop Tryz.prog.globals.size).take ((begin Tryz.prog (fun _ _=>0) default).world.heap.size - Tryz.prog.globals.size)) =
  (begin Tryz.prog (fun _ _=>0) default).world.heap.toList.drop Tryz.prog.globals.size:=by kernel_rfl
end Go.Proofs.YthhfmppealmblaaGreatDoor
namespace Go.Proofs.YthhfmppealmblaaGreatDoor
open Go.ChangeShapes Go.WideShapes Go.ChangeAt Go.ChangeMaps Go.RowKit
section
variable {H : Type} {enc : TypeId × Value → H} {W : World} {base : Nat} {spare : Nat → Bool} {held : Bool}
theorem cP_ev:Tryz.prog.cellsOf 42=5:=by kernel_rfl
theorem ev_open (n:Nat) (cs:List Value) (y:DataW H × List MemPlace) (h:DataW.trod enc Tryz.prog W base spare held n 42 cs=some y):∃ x:Ev,cs=evC x∧True:=by
 have hl:=(len_struct Tryz.underlying42 h).trans cP_ev
 obtain ⟨a,ha,_⟩:=fld_int Tryz.underlying42 h 0 _ rfl Tryz.underlying2
 obtain ⟨b,hb,_⟩:=fld_int Tryz.underlying42 h 1 _ rfl Tryz.underlying3
 obtain ⟨c,hc,_⟩:=fld_int Tryz.underlying42 h 2 _ rfl Tryz.underlying3
 obtain ⟨d,hd,_⟩:=fld_int Tryz.underlying42 h 3 _ rfl Tryz.underlying3
 obtain ⟨e,he,_⟩:=fld_int Tryz.underlying42 h 4 _ rfl Tryz.underlying3
 exact ⟨(a,b,c,d,e),list5 hl ha hb hc hd he,trivial⟩
set_option maxRecDepth 100000 in
theorem rec_open {b0:Nat} {r:Reach} {v:Value} {d:DataW H} {p:List MemPlace} (hv:Value.okWide Tryz.prog W r b0 28 v) (h:DataW.Trod enc Tryz.prog W base spare held 28 v d p) :
  ∃ l:List Ev,ARd W v 5 (l.map evC):=by
 obtain ⟨a0,l0,c0,rfl⟩:=okWide_slice Tryz.underlying28 hv
 obtain ⟨fuel,hf⟩:=h
 obtain ⟨v',l,hc,hr,_⟩:=slice_rows evC (fun _=>True) Tryz.underlying28 cP_ev (by omega) ev_open hf
 simp only [Value.cells,List.cons.injEq,and_true] at hc
 exact ⟨l,by rw [hc]; exact hr⟩
end
end Go.Proofs.YthhfmppealmblaaGreatDoor
