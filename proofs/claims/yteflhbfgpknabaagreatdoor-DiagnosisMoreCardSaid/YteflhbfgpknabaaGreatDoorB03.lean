/-
  A part of the proof: WF,VP,ZB.
-/
import Derived.Test.YteflhbfgpknabaaGreatDoorB01
import Derived.Test.YteflhbfgpknabaaGreatDoorB02
import Derived.Test.YteflhbfgpknabaaGreatDoorL21
import Derived.Test.YteflhbfgpknabaaGreatDoorL06
import Derived.Test.YteflhbfgpknabaaGreatDoorL23
import Derived.Test.YteflhbfgpknabaaGreatDoorL07
set_option maxRecDepth 100000
set_option maxHeartbeats 6400000
namespace Go.Proofs.YteflhbfgpknabaaGreatDoor
open Go.Lib (hid)
open Go.RowKit Go.Shelf
theorem faults30_any (v1 v2 v3 v4:Value) (S:Sp) (ok:SpWk S) (fp:Nat→Value) (l:List Ft) (v:Value) (hl:l.length≤1000000) (w:World) (hsp:SpRd w v1 v2 v3 v4 fp S) (hv:ARd w v 3 (l.map ftC)) :
  Calls Tryz.prog 8 #[.agg #[v1,v2,v3,v4],v] w (NumR (fltE S l) w):=by
 obtain ⟨av,cv,ev⟩:=hv.ftForm
 subst ev
 have HV:=hid hv
 obtain ⟨fl,hfl⟩:∃ fl,(checkP S).1=fl:=⟨_,rfl⟩
 obtain ⟨ce,hce⟩:∃ ce,(checkP S).2=ce:=⟨_,rfl⟩
 have hcv:ckV (checkP S) = .tuple #[.agg #[.int .i64 fl.1,.int .i64 fl.2.1,.int .i64 fl.2.2],.int .i64 ce]:=by unfold ckV;rw [hfl,hce]
 have HCE:=hid hce
 have B0:=hid (Blk.new w 27 #[v1,v2,v3,v4])
 have HB:=hid (show Below w.heap.size w (w.alloc (.cells #[v1,v2,v3,v4] 27)) from (Below.refl _ _).alloc (Nat.le_refl _) _)
 have HCK:=hid (rcheck_wk v1 v2 v3 v4 S ok _ fp (hsp.later HB.out))
 rw [hcv] at HCK
 have HIS:=hid (fun (hc:(checkP S).2=0) (W:World) (hb:Below w.heap.size w W) (k a t:Int)=>is30_any v1 v2 v3 v4 S hc fp W (hsp.later hb) k a t)
 have HCO:=hid (fun (h:∀ x∈l,1≤x.1∧x.1≤6) (W:World) (hb:Below w.heap.size w W)=>contra30_any l (.slice av l.length cv) W h hl (hv.later hb))
 clear hsp ok hcv hfl hce hv
 go_enter Tryz.func8,Tryz.ntmps8
 go_wp2_with fail
 refine HCK.out.mono ?_
 generalize w.alloc (.cells #[v1,v2,v3,v4] 27)=W at *
 rintro e W1 ⟨rfl,hb1⟩
 clear HCK
 obtain ⟨W2,hw2⟩:∃ W2,W1.alloc (.cells #[.int .i64 fl.1,.int .i64 fl.2.1,.int .i64 fl.2.2] 69)=W2:=⟨_,rfl⟩
 have hb2:Below W1.heap.size W1 W2:=by rw [← hw2];exact (Below.refl _ _).alloc (Nat.le_refl _) _
 have HB2:=hid (below_step (below_step HB.out hb1) hb2)
 have C0:=hid ((B0.out.below hb1).below hb2)
 clear hb1 hb2 HB B0
 by_cases hz:ce=0
 case neg =>
  have q1:(ce==0)=false:=by simpa using hz
  have q2:(ce != 0)=true:=by simpa using hz
  have HE:=hid (show fltE S l=ce by rw [fltE_bad (by rw [HCE.out];exact hz),HCE.out])
  clear hz
  go_wp2
  try rw [hw2]
  go_ret
  exact numR HE.out HB2.out
 subst hz
 by_cases hlen:10<l.length
 ·have d1:decide (10<l.length)=true:=decide_eq_true hlen
  have d2:decide ((10:Int)<(l.length:Int))=true:=decide_eq_true (by omega)
  have HE:=hid (fltE_long HCE.out hlen)
  clear hlen
  go_wp2
  try rw [hw2]
  go_ret
  exact numR HE.out HB2.out
 have d1:decide (10<l.length)=false:=decide_eq_false hlen
 have d2:decide ((10:Int)<(l.length:Int))=false:=decide_eq_false (by omega)
 have HL:=hid hlen
 have HN0:=hid (show RisN fLt l 0∧∀ j (hj:j<l.length),j<0→ftOk S l[j]=true from ⟨fun j hj h=>absurd h (Nat.not_lt_zero _),fun j hj h=>absurd h (Nat.not_lt_zero _)⟩)
 clear hlen
 go_wp2
 try rw [hw2]
 clear d1 d2 hw2
 go_loopw [7] (fun x wr=>∃ i:Nat,i≤l.length∧x = .int .i64 i∧Hid (RisN fLt l i∧∀ j (hj:j<l.length),j<i→ftOk S l[j]=true)∧Hid (Below w.heap.size w wr)∧Hid (Blk wr w.heap.size 27 #[v1,v2,v3,v4])) (fun x _=>l.length-(intOf x).toNat)
 case atStart=>exact ⟨0,Nat.zero_le _,rfl,HN0,HB2,C0⟩
 clear HN0 HB2 C0
 obtain ⟨i,hi,rfl,hN,hB,hKs⟩:=hrel
 by_cases hil:i<l.length
 ·have hi2:(i:Int)<(l.length:Int):=by omega
  obtain ⟨bb,o,c',ev,hbl,_⟩:=(HV.out.later hB.out).ftAt i hil
  cases ev
  have HQ:=hid (fun (z:World) (hz:Below wr.heap.size wr z) (j:Nat) (hj:j<l.length)=>show z.cell? ⟨bb,o+j * 3,none⟩=some (.int .i64 l[j].1)∧z.cell? ⟨bb,o+j * 3+1,none⟩=some (.int .i64 l[j].2.1)∧z.cell? ⟨bb,o+j * 3+2,none⟩=some (.int .i64 l[j].2.2) from by
   obtain ⟨b',o',c',ev,_,p0,p1,p2⟩:=(HV.out.later (below_step hB.out hz)).ftAt j hj
   obtain ⟨rfl,rfl⟩:=slice_inj ev
   exact ⟨p0,p1,p2⟩)
  have HYE:=hid (fun (h:ftOk S l[i]=true) (hr:0<i→fLt (l[i-1]'(by omega)) l[i])=>show RisN fLt l (i+1)∧∀ j (hj:j<l.length),j<i+1→ftOk S l[j]=true from by
   refine ⟨?_,fun j hj hji=>?_⟩
   ·rcases Nat.eq_zero_or_pos i with h0 | h0
    ·subst h0;exact fun j hj h=>absurd h (by omega)
    ·exact hN.out.1.next hil h0 (hr h0)
   ·by_cases e:j=i
    ·subst e;exact h
    ·exact hN.out.2 j hj (by omega))
  have HNO:=hid (fun (h:ftOk S l[i]=false∨∃ h0:0<i,¬ fLt (l[i-1]'(by omega)) l[i])=>show fltE S l=2 from fltE_arg HCE.out HL.out (by
   rintro ⟨h1,h2⟩
   rcases h with h | ⟨h0,h⟩
   ·rw [h2 _ (List.getElem_mem hil)] at h;cases h
   ·exact h (List.pairwise_iff_getElem.1 h1 _ _ _ _ (by omega))))
  obtain ⟨bh,hbh⟩:∃ bh,ftOk S l[i]=bh:=⟨_,rfl⟩
  have HHI:=hid (fun (z:World) (hz:Below wr.heap.size wr z)=>show Calls Tryz.prog 28 #[.agg #[v1,v2,v3,v4],.agg #[.int .i64 l[i].1,.int .i64 l[i].2.1,.int .i64 l[i].2.2]] z (BoolR bh z) from by
   rw [← hbh]
   exact HIS.out HCE.out z (below_step hB.out hz) l[i].1 l[i].2.1 l[i].2.2)
  have HQI:=hid (fun (z:World) (hz:Below wr.heap.size wr z)=>HQ.out z hz i hil)
  cases bh with
  | false =>
   have HN2:=hid (HNO.out (.inl hbh))
   obtain ⟨x,hx⟩:∃ x,l[i]=x:=⟨_,rfl⟩
   rw [hx] at HQI HHI
   obtain ⟨x1,x2,x3⟩:=x
   clear HYE HNO HQ hN hx hbh
   obtain ⟨ix,hix⟩:∃ ix,ix=i:=⟨_,rfl⟩
   subst hix
   go_upto_region 9 with fail
   have hmxx:Tryz.prog.follows .mixedOrders=true:=by kernel_rfl
   refine wp_plain (wp_region_flow (fun x=>{ tmps:=#[.agg #[v1,v2,v3,v4],.slice (some ⟨bb,o,none⟩) l.length cv,.pointer (some ⟨w.heap.size,0,none⟩),undef,u4,.pointer (some ⟨W1.heap.size,0,none⟩),.int .i64 0,.int .i64 (ix:Int),.tuple #[.agg #[.int .i64 fl.fst,.int .i64 fl.snd.fst,.int .i64 fl.snd.snd],.int .i64 0],.agg #[v1,v2,v3,v4],.tuple #[.agg #[.int .i64 fl.fst,.int .i64 fl.snd.fst,.int .i64 fl.snd.snd],.int .i64 0],.agg #[.int .i64 fl.fst,.int .i64 fl.snd.fst,.int .i64 fl.snd.snd],.int .i64 0,.int .i64 0,.bool false,undef,.slice (some ⟨bb,o,none⟩) l.length cv,.int .i64 (l.length:Int),.bool false,.int .i64 (ix:Int),.slice (some ⟨bb,o,none⟩) l.length cv,.int .i64 (l.length:Int),.bool true,u23,u24,(x 25),(x 26),(x 27),(x 28),(x 29),(x 30),(x 31),(x 32),(x 33),(x 34),(x 35),(x 36),(x 37),(x 38),(x 39),(x 40),(x 41),(x 42),(x 43),(x 44),(x 45),(x 46),(x 47),(x 48),undef,undef],defers:=[] }) (fun i v z=>match i with
    | 0=>v = .agg #[v1,v2,v3,v4]
    | 1=>v = .slice (some ⟨bb,o,none⟩) l.length cv
    | 2=>v = .int .i64 (ix:Int)
    | 3=>v = .pointer (some ⟨bb,o+ix * 3,none⟩)
    | 4=>v = .agg #[.int .i64 x1,.int .i64 x2,.int .i64 x3]
    | 5=>v = .bool false
    | 6=>v = .bool true
    | 7=>v = .bool true
    | 8=>v=undef
    | 9=>v=undef
    | 10=>v=undef
    | 11=>v=undef
    | 12=>v=undef
    | 13=>v=undef
    | 14=>v=undef
    | 15=>v=undef
    | 16=>v=undef
    | 17=>v=undef
    | 18=>v=undef
    | 19=>v=undef
    | 20=>v=undef
    | 21=>v=undef
    | 22=>v=undef
    | 23=>v = .bool true
    | _=>True) (fun n=>(#[.agg #[v1,v2,v3,v4],.slice (some ⟨bb,o,none⟩) l.length cv,.pointer (some ⟨w.heap.size,0,none⟩),undef,u4,.pointer (some ⟨W1.heap.size,0,none⟩),.int .i64 0,.int .i64 (ix:Int),.tuple #[.agg #[.int .i64 fl.fst,.int .i64 fl.snd.fst,.int .i64 fl.snd.snd],.int .i64 0],.agg #[v1,v2,v3,v4],.tuple #[.agg #[.int .i64 fl.fst,.int .i64 fl.snd.fst,.int .i64 fl.snd.snd],.int .i64 0],.agg #[.int .i64 fl.fst,.int .i64 fl.snd.fst,.int .i64 fl.snd.snd],.int .i64 0,.int .i64 0,.bool false,undef,.slice (some ⟨bb,o,none⟩) l.length cv,.int .i64 (l.length:Int),.bool false,.int .i64 (ix:Int),.slice (some ⟨bb,o,none⟩) l.length cv,.int .i64 (l.length:Int),.bool true,u23,u24,u25,u26,u27,u28,u29,u30,u31,u32,u33,u34,u35,u36,u37,u38,u39,u40,u41,u42,u43,u44,u45,u46,u47,u48,undef,undef]:Array Value).getD n undef) rfl hmxx (by kernel_rfl) (by kernel_rfl) ?mono ?put ?step ?done)
   case mono =>
    intro i v z z' h hb
    match i,h with
    | 0,h | 1,h | 2,h | 3,h | 4,h | 5,h | 6,h | 7,h | 8,h | 9,h | 10,h | 11,h | 12,h | 13,h | 14,h | 15,h | 16,h | 17,h | 18,h | 19,h | 20,h | 21,h | 22,h | 23,h => exact h
    | _+24,_=>trivial
   case put =>
    intro i o d ho hd x v
    match i,ho with
    | 0,ho | 1,ho | 2,ho | 3,ho | 4,ho | 5,ho | 6,ho | 7,ho | 8,ho | 9,ho | 10,ho | 11,ho | 12,ho | 13,ho | 14,ho | 15,ho | 16,ho | 17,ho | 18,ho | 19,ho | 20,ho | 21,ho | 22,ho | 23,ho => obtain rfl:=oj ho;obtain rfl:=oj hd;rfl
    | n+24,ho=>exact absurd (Array.getElem?_eq_some_iff.1 ho).1 (by simp)
   case step =>
    intro i o ho x z hz hdep K hK
    match i,ho with
    | 0,ho =>
     obtain rfl:=oj ho
     clear hdep ho
     dsimp only at hK ⊢
     obtain ⟨s0,s1,s2,s3⟩:=(hKs.out.below hz).four
     refine wpOp_step rfl (fun K2 hK2=>?_)
     go_simp
     exact hK2 _ _ (hK _ _ (Below.refl _ _) rfl)
    | 1,ho | 2,ho =>
     obtain rfl:=oj ho
     clear hdep ho
     dsimp only at hK ⊢
     refine wpOp_step rfl (fun K2 hK2=>?_)
     go_simp
     exact hK2 _ _ (hK _ _ (Below.refl _ _) rfl)
    | 3,ho =>
     obtain rfl:=oj ho
     have q1:x 26 = .slice (some ⟨bb,o,none⟩) l.length cv:=hdep 1 (by kernel_rfl) _ _ rfl rfl
     have q2:x 27 = .int .i64 (ix:Int):=hdep 2 (by kernel_rfl) _ _ rfl rfl
     clear hdep ho
     dsimp only at hK ⊢
     simp only [q1,q2] at hK ⊢
     refine wpOp_step rfl (fun K2 hK2=>?_)
     go_simp
     exact hK2 _ _ (hK _ _ (Below.refl _ _) rfl)
    | 4,ho =>
     obtain rfl:=oj ho
     have q3:x 28 = .pointer (some ⟨bb,o+ix * 3,none⟩):=hdep 3 (by kernel_rfl) _ _ rfl rfl
     clear hdep ho
     dsimp only at hK ⊢
     simp only [q3] at hK ⊢
     obtain ⟨p0,p1,p2⟩:=HQI.out z hz
     refine wpOp_step rfl (fun K2 hK2=>?_)
     go_simp
     exact hK2 _ _ (hK _ _ (Below.refl _ _) rfl)
    | 5,ho =>
     obtain rfl:=oj ho
     have q0:x 25 = .agg #[v1,v2,v3,v4]:=hdep 0 (by kernel_rfl) _ _ rfl rfl
     have q4:x 29 = .agg #[.int .i64 x1,.int .i64 x2,.int .i64 x3]:=hdep 4 (by kernel_rfl) _ _ rfl rfl
     clear hdep ho
     dsimp only at hK ⊢
     simp only [q0,q4] at hK ⊢
     refine wpOp_step rfl (fun K2 hK2=>?_)
     go_simp
     refine (HHI.out z hz).mono ?_
     rintro e z1 ⟨rfl,hb⟩
     exact hK2 _ _ (hK _ _ hb rfl)
    | 6,ho =>
     obtain rfl:=oj ho
     have q5:x 30 = .bool false:=hdep 5 (by kernel_rfl) _ _ rfl rfl
     clear hdep ho
     dsimp only at hK ⊢
     simp only [q5] at hK ⊢
     refine wpOp_step rfl (fun K2 hK2=>?_)
     go_simp
     exact hK2 _ _ (hK _ _ (Below.refl _ _) rfl)
    | 7,ho =>
     obtain rfl:=oj ho
     have q6:x 31 = .bool true:=hdep 6 (by kernel_rfl) _ _ rfl rfl
     clear hdep ho
     dsimp only at hK ⊢
     simp only [q6] at hK ⊢
     refine wpOp_step rfl (fun K2 hK2=>?_)
     go_simp
     exact hK2 _ _ (hK _ _ (Below.refl _ _) rfl)
    | 8,ho | 9,ho | 10,ho | 22,ho =>
     obtain rfl:=oj ho
     have q7:x 32 = .bool true:=hdep 7 (by kernel_rfl) _ _ rfl rfl
     clear hdep ho
     dsimp only at hK ⊢
     simp only [q7] at hK ⊢
     refine wpOp_step rfl (fun K2 hK2=>?_)
     go_simp
     exact hK2 _ _ (hK _ _ (Below.refl _ _) rfl)
    | 11,ho | 12,ho | 13,ho | 14,ho | 15,ho | 16,ho | 17,ho | 18,ho | 19,ho | 20,ho | 21,ho =>
     obtain rfl:=oj ho
     have q10:x 35=undef:=hdep 10 (by kernel_rfl) _ _ rfl rfl
     clear hdep ho
     dsimp only at hK ⊢
     simp only [q10] at hK ⊢
     refine wpOp_step rfl (fun K2 hK2=>?_)
     go_simp
     exact hK2 _ _ (hK _ _ (Below.refl _ _) rfl)
    | 23,ho =>
     obtain rfl:=oj ho
     have q7:x 32 = .bool true:=hdep 7 (by kernel_rfl) _ _ rfl rfl
     have q22:x 47=undef:=hdep 22 (by kernel_rfl) _ _ rfl rfl
     clear hdep ho
     dsimp only at hK ⊢
     simp only [q7,q22] at hK ⊢
     refine wpOp_step rfl (fun K2 hK2=>?_)
     go_simp
     exact hK2 _ _ (hK _ _ (Below.refl _ _) rfl)
    | n+24,ho=>exact absurd (Array.getElem?_eq_some_iff.1 ho).1 (by simp)
   case done =>
    intro x z hz hres
    have q23:x 48 = .bool true:=hres 23 _ _ rfl rfl
    have HZ:=hid (below_step hB.out hz)
    have KZ:=hid (hKs.out.below hz)
    clear hres hz
    dsimp only
    simp only [q23]
    go_wp2
    go_ret
    exact numR HN2.out HZ.out
  | true =>
   by_cases hi0:i=0
   ·have HN2:=hid (HYE.out hbh (fun h=>absurd h (by omega)))
    have hgt:decide ((0:Int)<(i:Int))=false:=decide_eq_false (by omega)
    have hgt':decide (0<i)=false:=decide_eq_false (by omega)
    obtain ⟨x,hx⟩:∃ x,l[i]=x:=⟨_,rfl⟩
    rw [hx] at HQI HHI
    obtain ⟨x1,x2,x3⟩:=x
    clear HYE HNO HQ hN hx hbh hi0
    obtain ⟨ix,hix⟩:∃ ix,ix=i:=⟨_,rfl⟩
    subst hix
    go_upto_region 9 with fail
    have hmxx:Tryz.prog.follows .mixedOrders=true:=by kernel_rfl
    refine wp_plain (wp_region_flow (fun x=>{ tmps:=#[.agg #[v1,v2,v3,v4],.slice (some ⟨bb,o,none⟩) l.length cv,.pointer (some ⟨w.heap.size,0,none⟩),undef,u4,.pointer (some ⟨W1.heap.size,0,none⟩),.int .i64 0,.int .i64 (ix:Int),.tuple #[.agg #[.int .i64 fl.fst,.int .i64 fl.snd.fst,.int .i64 fl.snd.snd],.int .i64 0],.agg #[v1,v2,v3,v4],.tuple #[.agg #[.int .i64 fl.fst,.int .i64 fl.snd.fst,.int .i64 fl.snd.snd],.int .i64 0],.agg #[.int .i64 fl.fst,.int .i64 fl.snd.fst,.int .i64 fl.snd.snd],.int .i64 0,.int .i64 0,.bool false,undef,.slice (some ⟨bb,o,none⟩) l.length cv,.int .i64 (l.length:Int),.bool false,.int .i64 (ix:Int),.slice (some ⟨bb,o,none⟩) l.length cv,.int .i64 (l.length:Int),.bool true,u23,u24,(x 25),(x 26),(x 27),(x 28),(x 29),(x 30),(x 31),(x 32),(x 33),(x 34),(x 35),(x 36),(x 37),(x 38),(x 39),(x 40),(x 41),(x 42),(x 43),(x 44),(x 45),(x 46),(x 47),(x 48),undef,undef],defers:=[] }) (fun i v z=>match i with
     | 0=>v = .agg #[v1,v2,v3,v4]
     | 1=>v = .slice (some ⟨bb,o,none⟩) l.length cv
     | 2=>v = .int .i64 (ix:Int)
     | 3=>v = .pointer (some ⟨bb,o+ix * 3,none⟩)
     | 4=>v = .agg #[.int .i64 x1,.int .i64 x2,.int .i64 x3]
     | 5=>v = .bool true
     | 6=>v = .bool false
     | 7=>v = .bool false
     | 8=>v = .int .i64 (ix:Int)
     | 9=>v = .bool false
     | 10=>v = .bool false
     | 11=>v=undef
     | 12=>v=undef
     | 13=>v=undef
     | 14=>v=undef
     | 15=>v=undef
     | 16=>v=undef
     | 17=>v=undef
     | 18=>v=undef
     | 19=>v=undef
     | 20=>v=undef
     | 21=>v=undef
     | 22=>v = .bool false
     | 23=>v = .bool false
     | _=>True) (fun n=>(#[.agg #[v1,v2,v3,v4],.slice (some ⟨bb,o,none⟩) l.length cv,.pointer (some ⟨w.heap.size,0,none⟩),undef,u4,.pointer (some ⟨W1.heap.size,0,none⟩),.int .i64 0,.int .i64 (ix:Int),.tuple #[.agg #[.int .i64 fl.fst,.int .i64 fl.snd.fst,.int .i64 fl.snd.snd],.int .i64 0],.agg #[v1,v2,v3,v4],.tuple #[.agg #[.int .i64 fl.fst,.int .i64 fl.snd.fst,.int .i64 fl.snd.snd],.int .i64 0],.agg #[.int .i64 fl.fst,.int .i64 fl.snd.fst,.int .i64 fl.snd.snd],.int .i64 0,.int .i64 0,.bool false,undef,.slice (some ⟨bb,o,none⟩) l.length cv,.int .i64 (l.length:Int),.bool false,.int .i64 (ix:Int),.slice (some ⟨bb,o,none⟩) l.length cv,.int .i64 (l.length:Int),.bool true,u23,u24,u25,u26,u27,u28,u29,u30,u31,u32,u33,u34,u35,u36,u37,u38,u39,u40,u41,u42,u43,u44,u45,u46,u47,u48,undef,undef]:Array Value).getD n undef) rfl hmxx (by kernel_rfl) (by kernel_rfl) ?mono ?put ?step ?done)
    case mono =>
     intro i v z z' h hb
     match i,h with
     | 0,h | 1,h | 2,h | 3,h | 4,h | 5,h | 6,h | 7,h | 8,h | 9,h | 10,h | 11,h | 12,h | 13,h | 14,h | 15,h | 16,h | 17,h | 18,h | 19,h | 20,h | 21,h | 22,h | 23,h => exact h
     | _+24,_=>trivial
    case put =>
     intro i o d ho hd x v
     match i,ho with
     | 0,ho | 1,ho | 2,ho | 3,ho | 4,ho | 5,ho | 6,ho | 7,ho | 8,ho | 9,ho | 10,ho | 11,ho | 12,ho | 13,ho | 14,ho | 15,ho | 16,ho | 17,ho | 18,ho | 19,ho | 20,ho | 21,ho | 22,ho | 23,ho => obtain rfl:=oj ho;obtain rfl:=oj hd;rfl
     | n+24,ho=>exact absurd (Array.getElem?_eq_some_iff.1 ho).1 (by simp)
    case step =>
     intro i o ho x z hz hdep K hK
     match i,ho with
     | 0,ho =>
      obtain rfl:=oj ho
      clear hdep ho
      dsimp only at hK ⊢
      obtain ⟨s0,s1,s2,s3⟩:=(hKs.out.below hz).four
      refine wpOp_step rfl (fun K2 hK2=>?_)
      go_simp
      exact hK2 _ _ (hK _ _ (Below.refl _ _) rfl)
     | 1,ho | 2,ho =>
      obtain rfl:=oj ho
      clear hdep ho
      dsimp only at hK ⊢
      refine wpOp_step rfl (fun K2 hK2=>?_)
      go_simp
      exact hK2 _ _ (hK _ _ (Below.refl _ _) rfl)
     | 3,ho =>
      obtain rfl:=oj ho
      have q1:x 26 = .slice (some ⟨bb,o,none⟩) l.length cv:=hdep 1 (by kernel_rfl) _ _ rfl rfl
      have q2:x 27 = .int .i64 (ix:Int):=hdep 2 (by kernel_rfl) _ _ rfl rfl
      clear hdep ho
      dsimp only at hK ⊢
      simp only [q1,q2] at hK ⊢
      refine wpOp_step rfl (fun K2 hK2=>?_)
      go_simp
      exact hK2 _ _ (hK _ _ (Below.refl _ _) rfl)
     | 4,ho =>
      obtain rfl:=oj ho
      have q3:x 28 = .pointer (some ⟨bb,o+ix * 3,none⟩):=hdep 3 (by kernel_rfl) _ _ rfl rfl
      clear hdep ho
      dsimp only at hK ⊢
      simp only [q3] at hK ⊢
      obtain ⟨p0,p1,p2⟩:=HQI.out z hz
      refine wpOp_step rfl (fun K2 hK2=>?_)
      go_simp
      exact hK2 _ _ (hK _ _ (Below.refl _ _) rfl)
     | 5,ho =>
      obtain rfl:=oj ho
      have q0:x 25 = .agg #[v1,v2,v3,v4]:=hdep 0 (by kernel_rfl) _ _ rfl rfl
      have q4:x 29 = .agg #[.int .i64 x1,.int .i64 x2,.int .i64 x3]:=hdep 4 (by kernel_rfl) _ _ rfl rfl
      clear hdep ho
      dsimp only at hK ⊢
      simp only [q0,q4] at hK ⊢
      refine wpOp_step rfl (fun K2 hK2=>?_)
      go_simp
      refine (HHI.out z hz).mono ?_
      rintro e z1 ⟨rfl,hb⟩
      exact hK2 _ _ (hK _ _ hb rfl)
     | 6,ho =>
      obtain rfl:=oj ho
      have q5:x 30 = .bool true:=hdep 5 (by kernel_rfl) _ _ rfl rfl
      clear hdep ho
      dsimp only at hK ⊢
      simp only [q5] at hK ⊢
      refine wpOp_step rfl (fun K2 hK2=>?_)
      go_simp
      exact hK2 _ _ (hK _ _ (Below.refl _ _) rfl)
     | 7,ho =>
      obtain rfl:=oj ho
      have q6:x 31 = .bool false:=hdep 6 (by kernel_rfl) _ _ rfl rfl
      clear hdep ho
      dsimp only at hK ⊢
      simp only [q6] at hK ⊢
      refine wpOp_step rfl (fun K2 hK2=>?_)
      go_simp
      exact hK2 _ _ (hK _ _ (Below.refl _ _) rfl)
     | 8,ho =>
      obtain rfl:=oj ho
      have q7:x 32 = .bool false:=hdep 7 (by kernel_rfl) _ _ rfl rfl
      clear hdep ho
      dsimp only at hK ⊢
      simp only [q7] at hK ⊢
      refine wpOp_step rfl (fun K2 hK2=>?_)
      go_simp
      exact hK2 _ _ (hK _ _ (Below.refl _ _) rfl)
     | 9,ho =>
      obtain rfl:=oj ho
      have q7:x 32 = .bool false:=hdep 7 (by kernel_rfl) _ _ rfl rfl
      have q8:x 33 = .int .i64 (ix:Int):=hdep 8 (by kernel_rfl) _ _ rfl rfl
      clear hdep ho
      dsimp only at hK ⊢
      simp only [q7,q8] at hK ⊢
      refine wpOp_step rfl (fun K2 hK2=>?_)
      go_simp
      exact hK2 _ _ (hK _ _ (Below.refl _ _) rfl)
     | 10,ho =>
      obtain rfl:=oj ho
      have q7:x 32 = .bool false:=hdep 7 (by kernel_rfl) _ _ rfl rfl
      have q9:x 34 = .bool false:=hdep 9 (by kernel_rfl) _ _ rfl rfl
      clear hdep ho
      dsimp only at hK ⊢
      simp only [q7,q9] at hK ⊢
      refine wpOp_step rfl (fun K2 hK2=>?_)
      go_simp
      exact hK2 _ _ (hK _ _ (Below.refl _ _) rfl)
     | 11,ho | 12,ho | 13,ho | 14,ho | 15,ho | 16,ho | 17,ho | 18,ho | 19,ho | 20,ho | 21,ho =>
      obtain rfl:=oj ho
      have q10:x 35 = .bool false:=hdep 10 (by kernel_rfl) _ _ rfl rfl
      clear hdep ho
      dsimp only at hK ⊢
      simp only [q10] at hK ⊢
      refine wpOp_step rfl (fun K2 hK2=>?_)
      go_simp
      exact hK2 _ _ (hK _ _ (Below.refl _ _) rfl)
     | 22,ho =>
      obtain rfl:=oj ho
      have q7:x 32 = .bool false:=hdep 7 (by kernel_rfl) _ _ rfl rfl
      have q10:x 35 = .bool false:=hdep 10 (by kernel_rfl) _ _ rfl rfl
      have q21:x 46=undef:=hdep 21 (by kernel_rfl) _ _ rfl rfl
      clear hdep ho
      dsimp only at hK ⊢
      simp only [q7,q10,q21] at hK ⊢
      refine wpOp_step rfl (fun K2 hK2=>?_)
      go_simp
      exact hK2 _ _ (hK _ _ (Below.refl _ _) rfl)
     | 23,ho =>
      obtain rfl:=oj ho
      have q7:x 32 = .bool false:=hdep 7 (by kernel_rfl) _ _ rfl rfl
      have q22:x 47 = .bool false:=hdep 22 (by kernel_rfl) _ _ rfl rfl
      clear hdep ho
      dsimp only at hK ⊢
      simp only [q7,q22] at hK ⊢
      refine wpOp_step rfl (fun K2 hK2=>?_)
      go_simp
      exact hK2 _ _ (hK _ _ (Below.refl _ _) rfl)
     | n+24,ho=>exact absurd (Array.getElem?_eq_some_iff.1 ho).1 (by simp)
    case done =>
     intro x z hz hres
     have q23:x 48 = .bool false:=hres 23 _ _ rfl rfl
     have HZ:=hid (below_step hB.out hz)
     have KZ:=hid (hKs.out.below hz)
     clear hres hz
     dsimp only
     simp only [q23]
     go_wp2
     go_roundw
     case rel=>exact ⟨ix+1,by omega,by go_num,HN2,HZ,KZ⟩
     case measure=>simp [intOf];omega
   ·have hi0':0<i:=by omega
    have HQJ:=hid (fun (z:World) (hz:Below wr.heap.size wr z)=>HQ.out z hz (i-1) (by omega))
    have hi1:((i-1:Nat):Int)=(i:Int)-1:=by omega
    have hwr:IntKind.i64.wrap ((i:Int)-1)=((i-1:Nat):Int):=by rw [hi1];exact IntWalk.i64_in _ (by omega)
    have hgt:decide ((0:Int)<(i:Int))=true:=decide_eq_true (by omega)
    have hgt':decide (0<i)=true:=decide_eq_true (by omega)
    have him:((i-1:Nat):Int)<(l.length:Int):=by omega
    obtain ⟨m,hm⟩:∃ m,i-1=m:=⟨_,rfl⟩
    obtain ⟨br,hbr⟩:∃ br,decide (fLt (l[i-1]'(by omega)) l[i])=br:=⟨_,rfl⟩
    have HBE:=hid (fun (z:World)=>show Calls Tryz.prog 29 #[.agg #[.int .i64 (l[i-1]'(by omega)).1,.int .i64 (l[i-1]'(by omega)).2.1,.int .i64 (l[i-1]'(by omega)).2.2],.agg #[.int .i64 l[i].1,.int .i64 l[i].2.1,.int .i64 l[i].2.2]] z (BoolR br z) from by
     rw [← hbr]
     exact less30_any _ _ _ _ _ _ z)
    have HYE2:=hid (fun (h:br=true)=>HYE.out hbh (fun _=>of_decide_eq_true (hbr.trans h)))
    have HNO2:=hid (fun (h:br=false)=>HNO.out (.inr ⟨hi0',of_decide_eq_false (hbr.trans h)⟩))
    obtain ⟨x,hx⟩:∃ x,l[i]=x:=⟨_,rfl⟩
    obtain ⟨y,hy⟩:∃ y,l[i-1]'(by omega)=y:=⟨_,rfl⟩
    rw [hx] at HQI HHI HBE
    rw [hy] at HQJ HBE
    rw [hm] at hwr HQJ him
    obtain ⟨x1,x2,x3⟩:=x
    obtain ⟨y1,y2,y3⟩:=y
    clear HYE HNO HQ hN hx hbh hy hi1 hbr hi0
    obtain ⟨ix,hix⟩:∃ ix,ix=i:=⟨_,rfl⟩
    subst hix
    go_upto_region 9 with fail
    have hmxx:Tryz.prog.follows .mixedOrders=true:=by kernel_rfl
    refine wp_plain (wp_region_flow (fun x=>{ tmps:=#[.agg #[v1,v2,v3,v4],.slice (some ⟨bb,o,none⟩) l.length cv,.pointer (some ⟨w.heap.size,0,none⟩),undef,u4,.pointer (some ⟨W1.heap.size,0,none⟩),.int .i64 0,.int .i64 (ix:Int),.tuple #[.agg #[.int .i64 fl.fst,.int .i64 fl.snd.fst,.int .i64 fl.snd.snd],.int .i64 0],.agg #[v1,v2,v3,v4],.tuple #[.agg #[.int .i64 fl.fst,.int .i64 fl.snd.fst,.int .i64 fl.snd.snd],.int .i64 0],.agg #[.int .i64 fl.fst,.int .i64 fl.snd.fst,.int .i64 fl.snd.snd],.int .i64 0,.int .i64 0,.bool false,undef,.slice (some ⟨bb,o,none⟩) l.length cv,.int .i64 (l.length:Int),.bool false,.int .i64 (ix:Int),.slice (some ⟨bb,o,none⟩) l.length cv,.int .i64 (l.length:Int),.bool true,u23,u24,(x 25),(x 26),(x 27),(x 28),(x 29),(x 30),(x 31),(x 32),(x 33),(x 34),(x 35),(x 36),(x 37),(x 38),(x 39),(x 40),(x 41),(x 42),(x 43),(x 44),(x 45),(x 46),(x 47),(x 48),undef,undef],defers:=[] }) (fun i v z=>match i with
     | 0=>v = .agg #[v1,v2,v3,v4]
     | 1=>v = .slice (some ⟨bb,o,none⟩) l.length cv
     | 2=>v = .int .i64 (ix:Int)
     | 3=>v = .pointer (some ⟨bb,o+ix * 3,none⟩)
     | 4=>v = .agg #[.int .i64 x1,.int .i64 x2,.int .i64 x3]
     | 5=>v = .bool true
     | 6=>v = .bool false
     | 7=>v = .bool false
     | 8=>v = .int .i64 (ix:Int)
     | 9=>v = .bool true
     | 10=>v = .bool true
     | 11=>v = .slice (some ⟨bb,o,none⟩) l.length cv
     | 12=>v = .int .i64 (ix:Int)
     | 13=>v = .int .i64 (m:Int)
     | 14=>v = .pointer (some ⟨bb,o+m * 3,none⟩)
     | 15=>v = .agg #[.int .i64 y1,.int .i64 y2,.int .i64 y3]
     | 16=>v = .slice (some ⟨bb,o,none⟩) l.length cv
     | 17=>v = .int .i64 (ix:Int)
     | 18=>v = .pointer (some ⟨bb,o+ix * 3,none⟩)
     | 19=>v = .agg #[.int .i64 x1,.int .i64 x2,.int .i64 x3]
     | 20=>v = .bool br
     | 21=>v = .bool (!br)
     | 22=>v = .bool (!br)
     | 23=>v = .bool (!br)
     | _=>True) (fun n=>(#[.agg #[v1,v2,v3,v4],.slice (some ⟨bb,o,none⟩) l.length cv,.pointer (some ⟨w.heap.size,0,none⟩),undef,u4,.pointer (some ⟨W1.heap.size,0,none⟩),.int .i64 0,.int .i64 (ix:Int),.tuple #[.agg #[.int .i64 fl.fst,.int .i64 fl.snd.fst,.int .i64 fl.snd.snd],.int .i64 0],.agg #[v1,v2,v3,v4],.tuple #[.agg #[.int .i64 fl.fst,.int .i64 fl.snd.fst,.int .i64 fl.snd.snd],.int .i64 0],.agg #[.int .i64 fl.fst,.int .i64 fl.snd.fst,.int .i64 fl.snd.snd],.int .i64 0,.int .i64 0,.bool false,undef,.slice (some ⟨bb,o,none⟩) l.length cv,.int .i64 (l.length:Int),.bool false,.int .i64 (ix:Int),.slice (some ⟨bb,o,none⟩) l.length cv,.int .i64 (l.length:Int),.bool true,u23,u24,u25,u26,u27,u28,u29,u30,u31,u32,u33,u34,u35,u36,u37,u38,u39,u40,u41,u42,u43,u44,u45,u46,u47,u48,undef,undef]:Array Value).getD n undef) rfl hmxx (by kernel_rfl) (by kernel_rfl) ?mono ?put ?step ?done)
    case mono =>
     intro i v z z' h hb
     match i,h with
     | 0,h | 1,h | 2,h | 3,h | 4,h | 5,h | 6,h | 7,h | 8,h | 9,h | 10,h | 11,h | 12,h | 13,h | 14,h | 15,h | 16,h | 17,h | 18,h | 19,h | 20,h | 21,h | 22,h | 23,h => exact h
     | _+24,_=>trivial
    case put =>
     intro i o d ho hd x v
     match i,ho with
     | 0,ho | 1,ho | 2,ho | 3,ho | 4,ho | 5,ho | 6,ho | 7,ho | 8,ho | 9,ho | 10,ho | 11,ho | 12,ho | 13,ho | 14,ho | 15,ho | 16,ho | 17,ho | 18,ho | 19,ho | 20,ho | 21,ho | 22,ho | 23,ho => obtain rfl:=oj ho;obtain rfl:=oj hd;rfl
     | n+24,ho=>exact absurd (Array.getElem?_eq_some_iff.1 ho).1 (by simp)
    case step =>
     intro i o ho x z hz hdep K hK
     match i,ho with
     | 0,ho =>
      obtain rfl:=oj ho
      clear hdep ho
      dsimp only at hK ⊢
      obtain ⟨s0,s1,s2,s3⟩:=(hKs.out.below hz).four
      refine wpOp_step rfl (fun K2 hK2=>?_)
      go_simp
      exact hK2 _ _ (hK _ _ (Below.refl _ _) rfl)
     | 1,ho | 2,ho =>
      obtain rfl:=oj ho
      clear hdep ho
      dsimp only at hK ⊢
      refine wpOp_step rfl (fun K2 hK2=>?_)
      go_simp
      exact hK2 _ _ (hK _ _ (Below.refl _ _) rfl)
     | 3,ho =>
      obtain rfl:=oj ho
      have q1:x 26 = .slice (some ⟨bb,o,none⟩) l.length cv:=hdep 1 (by kernel_rfl) _ _ rfl rfl
      have q2:x 27 = .int .i64 (ix:Int):=hdep 2 (by kernel_rfl) _ _ rfl rfl
      clear hdep ho
      dsimp only at hK ⊢
      simp only [q1,q2] at hK ⊢
      refine wpOp_step rfl (fun K2 hK2=>?_)
      go_simp
      exact hK2 _ _ (hK _ _ (Below.refl _ _) rfl)
     | 4,ho =>
      obtain rfl:=oj ho
      have q3:x 28 = .pointer (some ⟨bb,o+ix * 3,none⟩):=hdep 3 (by kernel_rfl) _ _ rfl rfl
      clear hdep ho
      dsimp only at hK ⊢
      simp only [q3] at hK ⊢
      obtain ⟨p0,p1,p2⟩:=HQI.out z hz
      refine wpOp_step rfl (fun K2 hK2=>?_)
      go_simp
      exact hK2 _ _ (hK _ _ (Below.refl _ _) rfl)
     | 5,ho =>
      obtain rfl:=oj ho
      have q0:x 25 = .agg #[v1,v2,v3,v4]:=hdep 0 (by kernel_rfl) _ _ rfl rfl
      have q4:x 29 = .agg #[.int .i64 x1,.int .i64 x2,.int .i64 x3]:=hdep 4 (by kernel_rfl) _ _ rfl rfl
      clear hdep ho
      dsimp only at hK ⊢
      simp only [q0,q4] at hK ⊢
      refine wpOp_step rfl (fun K2 hK2=>?_)
      go_simp
      refine (HHI.out z hz).mono ?_
      rintro e z1 ⟨rfl,hb⟩
      exact hK2 _ _ (hK _ _ hb rfl)
     | 6,ho =>
      obtain rfl:=oj ho
      have q5:x 30 = .bool true:=hdep 5 (by kernel_rfl) _ _ rfl rfl
      clear hdep ho
      dsimp only at hK ⊢
      simp only [q5] at hK ⊢
      refine wpOp_step rfl (fun K2 hK2=>?_)
      go_simp
      exact hK2 _ _ (hK _ _ (Below.refl _ _) rfl)
     | 7,ho =>
      obtain rfl:=oj ho
      have q6:x 31 = .bool false:=hdep 6 (by kernel_rfl) _ _ rfl rfl
      clear hdep ho
      dsimp only at hK ⊢
      simp only [q6] at hK ⊢
      refine wpOp_step rfl (fun K2 hK2=>?_)
      go_simp
      exact hK2 _ _ (hK _ _ (Below.refl _ _) rfl)
     | 8,ho =>
      obtain rfl:=oj ho
      have q7:x 32 = .bool false:=hdep 7 (by kernel_rfl) _ _ rfl rfl
      clear hdep ho
      dsimp only at hK ⊢
      simp only [q7] at hK ⊢
      refine wpOp_step rfl (fun K2 hK2=>?_)
      go_simp
      exact hK2 _ _ (hK _ _ (Below.refl _ _) rfl)
     | 9,ho =>
      obtain rfl:=oj ho
      have q7:x 32 = .bool false:=hdep 7 (by kernel_rfl) _ _ rfl rfl
      have q8:x 33 = .int .i64 (ix:Int):=hdep 8 (by kernel_rfl) _ _ rfl rfl
      clear hdep ho
      dsimp only at hK ⊢
      simp only [q7,q8] at hK ⊢
      refine wpOp_step rfl (fun K2 hK2=>?_)
      go_simp
      exact hK2 _ _ (hK _ _ (Below.refl _ _) rfl)
     | 10,ho =>
      obtain rfl:=oj ho
      have q7:x 32 = .bool false:=hdep 7 (by kernel_rfl) _ _ rfl rfl
      have q9:x 34 = .bool true:=hdep 9 (by kernel_rfl) _ _ rfl rfl
      clear hdep ho
      dsimp only at hK ⊢
      simp only [q7,q9] at hK ⊢
      refine wpOp_step rfl (fun K2 hK2=>?_)
      go_simp
      exact hK2 _ _ (hK _ _ (Below.refl _ _) rfl)
     | 11,ho | 12,ho | 16,ho | 17,ho =>
      obtain rfl:=oj ho
      have q10:x 35 = .bool true:=hdep 10 (by kernel_rfl) _ _ rfl rfl
      clear hdep ho
      dsimp only at hK ⊢
      simp only [q10] at hK ⊢
      refine wpOp_step rfl (fun K2 hK2=>?_)
      go_simp
      exact hK2 _ _ (hK _ _ (Below.refl _ _) rfl)
     | 13,ho =>
      obtain rfl:=oj ho
      have q10:x 35 = .bool true:=hdep 10 (by kernel_rfl) _ _ rfl rfl
      have q12:x 37 = .int .i64 (ix:Int):=hdep 12 (by kernel_rfl) _ _ rfl rfl
      clear hdep ho
      dsimp only at hK ⊢
      simp only [q10,q12] at hK ⊢
      refine wpOp_step rfl (fun K2 hK2=>?_)
      go_simp
      exact hK2 _ _ (hK _ _ (Below.refl _ _) rfl)
     | 14,ho =>
      obtain rfl:=oj ho
      have q10:x 35 = .bool true:=hdep 10 (by kernel_rfl) _ _ rfl rfl
      have q11:x 36 = .slice (some ⟨bb,o,none⟩) l.length cv:=hdep 11 (by kernel_rfl) _ _ rfl rfl
      have q13:x 38 = .int .i64 (m:Int):=hdep 13 (by kernel_rfl) _ _ rfl rfl
      clear hdep ho
      dsimp only at hK ⊢
      simp only [q10,q11,q13] at hK ⊢
      refine wpOp_step rfl (fun K2 hK2=>?_)
      go_simp
      exact hK2 _ _ (hK _ _ (Below.refl _ _) rfl)
     | 15,ho =>
      obtain rfl:=oj ho
      have q10:x 35 = .bool true:=hdep 10 (by kernel_rfl) _ _ rfl rfl
      have q14:x 39 = .pointer (some ⟨bb,o+m * 3,none⟩):=hdep 14 (by kernel_rfl) _ _ rfl rfl
      clear hdep ho
      dsimp only at hK ⊢
      simp only [q10,q14] at hK ⊢
      obtain ⟨p0,p1,p2⟩:=HQJ.out z hz
      refine wpOp_step rfl (fun K2 hK2=>?_)
      go_simp
      exact hK2 _ _ (hK _ _ (Below.refl _ _) rfl)
     | 18,ho =>
      obtain rfl:=oj ho
      have q10:x 35 = .bool true:=hdep 10 (by kernel_rfl) _ _ rfl rfl
      have q16:x 41 = .slice (some ⟨bb,o,none⟩) l.length cv:=hdep 16 (by kernel_rfl) _ _ rfl rfl
      have q17:x 42 = .int .i64 (ix:Int):=hdep 17 (by kernel_rfl) _ _ rfl rfl
      clear hdep ho
      dsimp only at hK ⊢
      simp only [q10,q16,q17] at hK ⊢
      refine wpOp_step rfl (fun K2 hK2=>?_)
      go_simp
      exact hK2 _ _ (hK _ _ (Below.refl _ _) rfl)
     | 19,ho =>
      obtain rfl:=oj ho
      have q10:x 35 = .bool true:=hdep 10 (by kernel_rfl) _ _ rfl rfl
      have q18:x 43 = .pointer (some ⟨bb,o+ix * 3,none⟩):=hdep 18 (by kernel_rfl) _ _ rfl rfl
      clear hdep ho
      dsimp only at hK ⊢
      simp only [q10,q18] at hK ⊢
      obtain ⟨p0,p1,p2⟩:=HQI.out z hz
      refine wpOp_step rfl (fun K2 hK2=>?_)
      go_simp
      exact hK2 _ _ (hK _ _ (Below.refl _ _) rfl)
     | 20,ho =>
      obtain rfl:=oj ho
      have q10:x 35 = .bool true:=hdep 10 (by kernel_rfl) _ _ rfl rfl
      have q15:x 40 = .agg #[.int .i64 y1,.int .i64 y2,.int .i64 y3]:=hdep 15 (by kernel_rfl) _ _ rfl rfl
      have q19:x 44 = .agg #[.int .i64 x1,.int .i64 x2,.int .i64 x3]:=hdep 19 (by kernel_rfl) _ _ rfl rfl
      clear hdep ho
      dsimp only at hK ⊢
      simp only [q10,q15,q19] at hK ⊢
      refine wpOp_step rfl (fun K2 hK2=>?_)
      go_simp
      refine (HBE.out z).mono ?_
      rintro e z1 ⟨rfl,hb⟩
      exact hK2 _ _ (hK _ _ hb rfl)
     | 21,ho =>
      obtain rfl:=oj ho
      have q10:x 35 = .bool true:=hdep 10 (by kernel_rfl) _ _ rfl rfl
      have q20:x 45 = .bool br:=hdep 20 (by kernel_rfl) _ _ rfl rfl
      clear hdep ho
      dsimp only at hK ⊢
      simp only [q10,q20] at hK ⊢
      refine wpOp_step rfl (fun K2 hK2=>?_)
      go_simp
      exact hK2 _ _ (hK _ _ (Below.refl _ _) rfl)
     | 22,ho =>
      obtain rfl:=oj ho
      have q7:x 32 = .bool false:=hdep 7 (by kernel_rfl) _ _ rfl rfl
      have q10:x 35 = .bool true:=hdep 10 (by kernel_rfl) _ _ rfl rfl
      have q21:x 46 = .bool (!br):=hdep 21 (by kernel_rfl) _ _ rfl rfl
      clear hdep ho
      dsimp only at hK ⊢
      simp only [q7,q10,q21] at hK ⊢
      refine wpOp_step rfl (fun K2 hK2=>?_)
      go_simp
      exact hK2 _ _ (hK _ _ (Below.refl _ _) rfl)
     | 23,ho =>
      obtain rfl:=oj ho
      have q7:x 32 = .bool false:=hdep 7 (by kernel_rfl) _ _ rfl rfl
      have q22:x 47 = .bool (!br):=hdep 22 (by kernel_rfl) _ _ rfl rfl
      clear hdep ho
      dsimp only at hK ⊢
      simp only [q7,q22] at hK ⊢
      refine wpOp_step rfl (fun K2 hK2=>?_)
      go_simp
      exact hK2 _ _ (hK _ _ (Below.refl _ _) rfl)
     | n+24,ho=>exact absurd (Array.getElem?_eq_some_iff.1 ho).1 (by simp)
    case done =>
     intro x z hz hres
     have q23:x 48 = .bool (!br):=hres 23 _ _ rfl rfl
     have HZ:=hid (below_step hB.out hz)
     have KZ:=hid (hKs.out.below hz)
     clear hres hz
     dsimp only
     simp only [q23]
     cases br with
     | false =>
      have HN3:=hid (HNO2.out rfl)
      go_wp2
      go_ret
      exact numR HN3.out HZ.out
     | true =>
      have HN3:=hid (HYE2.out rfl)
      go_wp2
      go_roundw
      case rel=>exact ⟨ix+1,by omega,by go_num,HN3,HZ,KZ⟩
      case measure=>simp [intOf];omega
 ·have hi2:¬ (i:Int)<(l.length:Int):=by omega
  have hie:i=l.length:=by omega
  have HGD:=hid (show l.Pairwise fLt∧∀ x∈l,ftOk S x=true from ⟨risN_all (R:=fLt) (fun h k=>fLt_trans h k) (by rw [← hie];exact hN.out.1),fun p hp=>by
   obtain ⟨j,hj,rfl⟩:=List.getElem_of_mem hp
   exact hN.out.2 j hj (by omega)⟩)
  have HE:=hid (fltE_twice HCE.out HL.out HGD.out)
  have HCN:=hid (HCO.out (fun x hx=>ftOk_kind (HGD.out.2 x hx)) wr hB.out)
  clear hie hN HCO HGD
  go_wp2_with fail
  refine HCN.out.mono ?_
  rintro e W3 ⟨rfl,hb3⟩
  have HB3:=hid (below_step hB.out hb3)
  clear hb3
  cases hcb:conB l with
  | true =>
   have HE2:=hid (HE.out.trans (if_pos hcb))
   clear hcb
   go_wp2
   go_ret
   exact numR HE2.out HB3.out
  | false =>
   have HE2:=hid (HE.out.trans (if_neg (by rw [hcb];decide)))
   clear hcb
   go_wp2
   go_ret
   exact numR HE2.out HB3.out
def heE (S:Sp) (F:List Ft) (H:Hn):Int:=if fltE S F≠0 then fltE S F else hnE S H
def heL (S:Sp) (B:(Th→Int)→Pp→Bool) (F:List Ft) (H:Hn):List Pp:=if heE S F H=0 then hearL S B F (onH H) else []
def HeR (m:List Pp) (n:Int) (w:World) (e:Ending) (w':World):Prop:=∃ v,e = .returned (.tuple #[v,.int .i64 n])∧w'.ownsRow w.heap.size 78 2 v m.length (ppCs m)∧Below w.heap.size w w'
theorem heR {m m':List Pp} {n n':Int} {w w':World} {v:Value} (hm:m=m') (hn:n=n') (hr:w'.ownsRow w.heap.size 78 2 v m'.length (ppCs m')) (hb:Below w.heap.size w w'):HeR m n w (.returned (.tuple #[v,.int .i64 n'])) w':=by
 subst hm;subst hn;exact ⟨v,rfl,hr,hb⟩
theorem hnE_ok {S:Sp} (hc:(checkP S).2=0) {H:Hn} (h:hnE S H=0):HnOk S H:=hnd_ok hc (by unfold hnE at h;rw [if_neg (by omega)] at h;exact h)
theorem he_flt {S:Sp} {B:(Th→Int)→Pp→Bool} {F:List Ft} {H:Hn} {n:Int} (h:fltE S F=n) (hn:n≠0):heE S F H=n∧heL S B F H=[]:=by
 have h1:heE S F H=n:=by unfold heE;rw [if_pos (by rw [h];exact hn),h]
 exact ⟨h1,by unfold heL;rw [if_neg (by rw [h1];exact hn)]⟩
theorem he_hn {S:Sp} {B:(Th→Int)→Pp→Bool} {F:List Ft} {H:Hn} {n:Int} (h:fltE S F=0) (h2:hnE S H=n) (hn:n≠0):heE S F H=n∧heL S B F H=[]:=by
 have h1:heE S F H=n:=by unfold heE;rw [if_neg (by omega),h2]
 exact ⟨h1,by unfold heL;rw [if_neg (by rw [h1];exact hn)]⟩
theorem he_in {S:Sp} {B:(Th→Int)→Pp→Bool} {F:List Ft} {H:Hn} (h:fltE S F=0) (h2:hnE S H=0):heE S F H=0∧heL S B F H=hearL S B F (onH H):=by
 have h1:heE S F H=0:=by unfold heE;rw [if_neg (by omega),h2]
 exact ⟨h1,by unfold heL;rw [if_pos h1]⟩
end Go.Proofs.YteflhbfgpknabaaGreatDoor
namespace Go.Proofs.YteflhbfgpknabaaGreatDoor
open Go.Lib (hid)
open Go.RowKit
section
variable {κ : Type} [DecidableEq κ]
def setU (m:List κ):List (κ × Value):=m.map fun x=>(x,Value.agg #[])
omit [DecidableEq κ] in
theorem setU_keys (m:List κ):(setU m).map (·.1)=m:=by unfold setU;rw [List.map_map];exact List.map_id m
theorem mget_setU (x:κ):∀ m:List κ,mget x (setU m)=if x∈m then some (.agg #[]) else none
 | []=>rfl
 | k :: m=>by
  have ih:=mget_setU x m
  unfold setU at ih ⊢
  rw [List.map_cons,mget]
  by_cases h:x=k
  ·subst h;rw [if_pos rfl,if_pos List.mem_cons_self]
  ·rw [if_neg h,ih]
   by_cases h2:x∈m
   ·rw [if_pos h2,if_pos (List.mem_cons_of_mem _ h2)]
   ·rw [if_neg h2,if_neg (fun q=>(List.mem_cons.1 q).elim h h2)]
theorem mget_setU_some (x:κ) (m:List κ):(mget x (setU m)).isSome=decide (x∈m)∧(mget x (setU m)).getD (.agg #[]) = .agg #[]:=by
 rw [mget_setU]
 by_cases h:x∈m
 ·rw [if_pos h,decide_eq_true h];exact ⟨rfl,rfl⟩
 ·rw [if_neg h,decide_eq_false h];exact ⟨rfl,rfl⟩
theorem mput_setU {x:κ} {m:List κ} (h:x ∉ m):mput x (.agg #[]) (setU m)=setU (m++[x]):=by
 rw [mput_none _ (mget_no.2 (by rw [setU_keys];exact h))]
 simp [setU]
theorem mdel_setU (x:κ):∀ m:List κ,m.Nodup→mdel x (setU m)=setU (m.filter fun y=>!decide (y=x))
 | [],_=>rfl
 | k :: m,hn=>by
  rw [List.nodup_cons] at hn
  have ih:=mdel_setU x m hn.2
  unfold setU at ih ⊢
  rw [List.map_cons,mdel]
  by_cases h:x=k
  ·subst h
   rw [if_pos rfl,List.filter_cons_of_neg (by simp)]
   congr 1
   symm
   rw [List.filter_eq_self]
   intro y hy
   simp only [Bool.not_eq_true',decide_eq_false_iff_not]
   rintro rfl
   exact hn.1 hy
  ·rw [if_neg h,List.filter_cons_of_pos (by simp only [Bool.not_eq_true',decide_eq_false_iff_not];exact fun q=>h q.symm),List.map_cons,ih]
end
end Go.Proofs.YteflhbfgpknabaaGreatDoor
