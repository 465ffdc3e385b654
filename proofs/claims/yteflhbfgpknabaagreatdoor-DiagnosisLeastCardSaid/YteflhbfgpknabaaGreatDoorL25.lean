/-
  A part of the proof: WE,VN.
-/
import Derived.Test.YteflhbfgpknabaaGreatDoorL20
import Derived.Test.YteflhbfgpknabaaGreatDoorL21
import Derived.Test.YteflhbfgpknabaaGreatDoorL08
set_option maxRecDepth 100000
set_option maxHeartbeats 6400000
namespace Go.Proofs.YteflhbfgpknabaaGreatDoor
open Go.Lib (hid)
open Go.RowKit Go.Shelf
theorem risN_all {α:Type} {R:α→α→Prop} (ht:∀ {a b c},R a b→R b c→R a c) {l:List α} (h:RisN R l l.length):l.Pairwise R:=pairwise_of (R:=R) ht fun j hj=>h j hj hj
theorem pipes30_any (v1 v2 v3 v4:Value) (S:Sp) (hc:(checkP S).2=0) (fp:Nat→Value) (l:List Pp) (v:Value) (w:World) (hsp:SpRd w v1 v2 v3 v4 fp S) (hl:l.length≤1000000) (hv:ARd w v 2 (l.map ppC)) :
  Calls Tryz.prog 46 #[.agg #[v1,v2,v3,v4],v] w (BoolR (pipB S l) w):=by
 obtain ⟨av,cv,ev⟩:=hv.form
 rw [List.length_map] at ev
 subst ev
 have HV:=hid hv
 have HB0:=hid (show Below w.heap.size w (w.alloc (.cells #[v1,v2,v3,v4] 27)) from (Below.refl _ _).alloc (Nat.le_refl _) _)
 have K0:=hid (Blk.new w 27 #[v1,v2,v3,v4])
 have HN0:=hid (show RisN ppLt l 0∧∀ j (hj:j<l.length),j<0→l[j]∈allFrom 0 S.rs from ⟨fun j hj h=>absurd h (Nat.not_lt_zero _),fun j hj h=>absurd h (Nat.not_lt_zero _)⟩)
 have HHA:=hid (fun (W:World) (hb:Below w.heap.size w W) (a t:Int)=>has30_any v1 v2 v3 v4 S hc fp W (hsp.later hb) a t)
 clear hv hsp
 go_enter Tryz.func46,Tryz.ntmps46
 go_wp2
 generalize w.alloc (.cells #[v1,v2,v3,v4] 27)=W0 at *
 go_loopw [5] (fun x wr=>∃ i:Nat,i≤l.length∧x = .int .i64 i∧Hid (RisN ppLt l i∧∀ j (hj:j<l.length),j<i→l[j]∈allFrom 0 S.rs)∧Hid (Below w.heap.size w wr)∧Hid (Blk wr w.heap.size 27 #[v1,v2,v3,v4])) (fun x _=>l.length-(intOf x).toNat)
 case atStart=>exact ⟨0,Nat.zero_le _,rfl,HN0,HB0,K0⟩
 clear HN0 HB0 K0
 obtain ⟨i,hi,rfl,hN,hB,hKs⟩:=hrel
 by_cases hil:i<l.length
 ·have hi2:(i:Int)<(l.length:Int):=by omega
  obtain ⟨bb,o,c',ev,hbl,_⟩:=(HV.out.later hB.out).ppAt i hil
  cases ev
  have HQ:=hid (fun (z:World) (hz:Below wr.heap.size wr z) (j:Nat) (hj:j<l.length)=>show z.cell? ⟨bb,o+j * 2,none⟩=some (.int .i64 l[j].1)∧z.cell? ⟨bb,o+j * 2+1,none⟩=some (.int .i64 l[j].2) from by
   obtain ⟨b',o',c',ev,_,p0,p1⟩:=(HV.out.later (below_step hB.out hz)).ppAt j hj
   obtain ⟨rfl,rfl⟩:=slice_inj ev
   exact ⟨p0,p1⟩)
  have HYE:=hid (fun (h:l[i]∈allFrom 0 S.rs) (hr:0<i→ppLt (l[i-1]'(by omega)) l[i])=>show RisN ppLt l (i+1)∧∀ j (hj:j<l.length),j<i+1→l[j]∈allFrom 0 S.rs from by
   refine ⟨?_,fun j hj hji=>?_⟩
   ·rcases Nat.eq_zero_or_pos i with h0 | h0
    ·subst h0;exact fun j hj h=>absurd h (by omega)
    ·exact hN.out.1.next hil h0 (hr h0)
   ·by_cases e:j=i
    ·subst e;exact h
    ·exact hN.out.2 j hj (by omega))
  have HNO:=hid (fun (h:l[i] ∉ allFrom 0 S.rs∨∃ h0:0<i,¬ ppLt (l[i-1]'(by omega)) l[i])=>show pipB S l=false from by
   rw [← Bool.not_eq_true,pipB_iff]
   rintro ⟨h1,h2⟩
   rcases h with h | ⟨h0,h⟩
   ·exact h (h2 _ (List.getElem_mem hil))
   ·exact h (List.pairwise_iff_getElem.1 h1 _ _ _ _ (by omega)))
  obtain ⟨bh,hbh⟩:∃ bh,decide (l[i]∈allFrom 0 S.rs)=bh:=⟨_,rfl⟩
  have HHI:=hid (fun (z:World) (hz:Below wr.heap.size wr z)=>show Calls Tryz.prog 64 #[.agg #[v1,v2,v3,v4],.agg #[.int .i64 l[i].1,.int .i64 l[i].2]] z (BoolR bh z) from by
   rw [← hbh]
   exact HHA.out z (below_step hB.out hz) l[i].1 l[i].2)
  have HQI:=hid (fun (z:World) (hz:Below wr.heap.size wr z)=>HQ.out z hz i hil)
  cases bh with
  | false =>
   have HN2:=hid (HNO.out (.inl (of_decide_eq_false hbh)))
   obtain ⟨x,hx⟩:∃ x,l[i]=x:=⟨_,rfl⟩
   rw [hx] at HQI HHI
   obtain ⟨x1,x2⟩:=x
   clear HYE HNO HQ hN hx hbh
   obtain ⟨ix,hix⟩:∃ ix,ix=i:=⟨_,rfl⟩
   subst hix
   go_upto_region 4 with fail
   have hmxx:Tryz.prog.follows .mixedOrders=true:=by kernel_rfl
   refine wp_plain (wp_region_flow (fun x=>{ tmps:=#[.agg #[v1,v2,v3,v4],.slice (some ⟨bb,o,none⟩) l.length cv,.pointer (some ⟨w.heap.size,0,none⟩),undef,u4,.int .i64 (ix:Int),.int .i64 (ix:Int),.slice (some ⟨bb,o,none⟩) l.length cv,.int .i64 (l.length:Int),.bool true,u10,u11,(x 12),(x 13),(x 14),(x 15),(x 16),(x 17),(x 18),(x 19),(x 20),(x 21),(x 22),(x 23),(x 24),(x 25),(x 26),(x 27),(x 28),(x 29),(x 30),(x 31),(x 32),(x 33),(x 34),(x 35)],defers:=[] }) (fun i v z=>match i with
    | 0=>v = .agg #[v1,v2,v3,v4]
    | 1=>v = .slice (some ⟨bb,o,none⟩) l.length cv
    | 2=>v = .int .i64 (ix:Int)
    | 3=>v = .pointer (some ⟨bb,o+ix * 2,none⟩)
    | 4=>v = .agg #[.int .i64 x1,.int .i64 x2]
    | 5=>v = .bool false
    | 6=>v = .bool true
    | 7=>v = .bool true
    | 8=>v=undef
    | 9=>v=undef
    | 10=>v=undef
    | 11=>v=undef
    | 12=>v=undef
    | 13=>v=undef
    | 14=>v=undef
    | 15=>v=undef
    | 16=>v=undef
    | 17=>v=undef
    | 18=>v=undef
    | 19=>v=undef
    | 20=>v=undef
    | 21=>v=undef
    | 22=>v=undef
    | 23=>v = .bool true
    | _=>True) (fun n=>(#[.agg #[v1,v2,v3,v4],.slice (some ⟨bb,o,none⟩) l.length cv,.pointer (some ⟨w.heap.size,0,none⟩),undef,u4,.int .i64 (ix:Int),.int .i64 (ix:Int),.slice (some ⟨bb,o,none⟩) l.length cv,.int .i64 (l.length:Int),.bool true,u10,u11,u12,u13,u14,u15,u16,u17,u18,u19,u20,u21,u22,u23,u24,u25,u26,u27,u28,u29,u30,u31,u32,u33,u34,u35]:Array Value).getD n undef) rfl hmxx (by kernel_rfl) (by kernel_rfl) ?mono ?put ?step ?done)
   case mono =>
    intro i v z z' h hb
    match i,h with
    | 0,h | 1,h | 2,h | 3,h | 4,h | 5,h | 6,h | 7,h | 8,h | 9,h | 10,h | 11,h | 12,h | 13,h | 14,h | 15,h | 16,h | 17,h | 18,h | 19,h | 20,h | 21,h | 22,h | 23,h => exact h
    | _+24,_=>trivial
   case put =>
    intro i o d ho hd x v
    match i,ho with
    | 0,ho | 1,ho | 2,ho | 3,ho | 4,ho | 5,ho | 6,ho | 7,ho | 8,ho | 9,ho | 10,ho | 11,ho | 12,ho | 13,ho | 14,ho | 15,ho | 16,ho | 17,ho | 18,ho | 19,ho | 20,ho | 21,ho | 22,ho | 23,ho => obtain rfl:=oj ho;obtain rfl:=oj hd;rfl
    | n+24,ho=>exact absurd (Array.getElem?_eq_some_iff.1 ho).1 (by simp)
   case step =>
    intro i o ho x z hz hdep K hK
    match i,ho with
    | 0,ho =>
     obtain rfl:=oj ho
     clear hdep ho
     dsimp only at hK ⊢
     obtain ⟨s0,s1,s2,s3⟩:=(hKs.out.below hz).four
     refine wpOp_step rfl (fun K2 hK2=>?_)
     go_simp
     exact hK2 _ _ (hK _ _ (Below.refl _ _) rfl)
    | 1,ho | 2,ho =>
     obtain rfl:=oj ho
     clear hdep ho
     dsimp only at hK ⊢
     refine wpOp_step rfl (fun K2 hK2=>?_)
     go_simp
     exact hK2 _ _ (hK _ _ (Below.refl _ _) rfl)
    | 3,ho =>
     obtain rfl:=oj ho
     have q1:x 13 = .slice (some ⟨bb,o,none⟩) l.length cv:=hdep 1 (by kernel_rfl) _ _ rfl rfl
     have q2:x 14 = .int .i64 (ix:Int):=hdep 2 (by kernel_rfl) _ _ rfl rfl
     clear hdep ho
     dsimp only at hK ⊢
     simp only [q1,q2] at hK ⊢
     refine wpOp_step rfl (fun K2 hK2=>?_)
     go_simp
     exact hK2 _ _ (hK _ _ (Below.refl _ _) rfl)
    | 4,ho =>
     obtain rfl:=oj ho
     have q3:x 15 = .pointer (some ⟨bb,o+ix * 2,none⟩):=hdep 3 (by kernel_rfl) _ _ rfl rfl
     clear hdep ho
     dsimp only at hK ⊢
     simp only [q3] at hK ⊢
     obtain ⟨p0,p1⟩:=HQI.out z hz
     refine wpOp_step rfl (fun K2 hK2=>?_)
     go_simp
     exact hK2 _ _ (hK _ _ (Below.refl _ _) rfl)
    | 5,ho =>
     obtain rfl:=oj ho
     have q0:x 12 = .agg #[v1,v2,v3,v4]:=hdep 0 (by kernel_rfl) _ _ rfl rfl
     have q4:x 16 = .agg #[.int .i64 x1,.int .i64 x2]:=hdep 4 (by kernel_rfl) _ _ rfl rfl
     clear hdep ho
     dsimp only at hK ⊢
     simp only [q0,q4] at hK ⊢
     refine wpOp_step rfl (fun K2 hK2=>?_)
     go_simp
     refine (HHI.out z hz).mono ?_
     rintro e z1 ⟨rfl,hb⟩
     exact hK2 _ _ (hK _ _ hb rfl)
    | 6,ho =>
     obtain rfl:=oj ho
     have q5:x 17 = .bool false:=hdep 5 (by kernel_rfl) _ _ rfl rfl
     clear hdep ho
     dsimp only at hK ⊢
     simp only [q5] at hK ⊢
     refine wpOp_step rfl (fun K2 hK2=>?_)
     go_simp
     exact hK2 _ _ (hK _ _ (Below.refl _ _) rfl)
    | 7,ho =>
     obtain rfl:=oj ho
     have q6:x 18 = .bool true:=hdep 6 (by kernel_rfl) _ _ rfl rfl
     clear hdep ho
     dsimp only at hK ⊢
     simp only [q6] at hK ⊢
     refine wpOp_step rfl (fun K2 hK2=>?_)
     go_simp
     exact hK2 _ _ (hK _ _ (Below.refl _ _) rfl)
    | 8,ho | 9,ho | 10,ho | 22,ho =>
     obtain rfl:=oj ho
     have q7:x 19 = .bool true:=hdep 7 (by kernel_rfl) _ _ rfl rfl
     clear hdep ho
     dsimp only at hK ⊢
     simp only [q7] at hK ⊢
     refine wpOp_step rfl (fun K2 hK2=>?_)
     go_simp
     exact hK2 _ _ (hK _ _ (Below.refl _ _) rfl)
    | 11,ho | 12,ho | 13,ho | 14,ho | 15,ho | 16,ho | 17,ho | 18,ho | 19,ho | 20,ho | 21,ho =>
     obtain rfl:=oj ho
     have q10:x 22=undef:=hdep 10 (by kernel_rfl) _ _ rfl rfl
     clear hdep ho
     dsimp only at hK ⊢
     simp only [q10] at hK ⊢
     refine wpOp_step rfl (fun K2 hK2=>?_)
     go_simp
     exact hK2 _ _ (hK _ _ (Below.refl _ _) rfl)
    | 23,ho =>
     obtain rfl:=oj ho
     have q7:x 19 = .bool true:=hdep 7 (by kernel_rfl) _ _ rfl rfl
     have q22:x 34=undef:=hdep 22 (by kernel_rfl) _ _ rfl rfl
     clear hdep ho
     dsimp only at hK ⊢
     simp only [q7,q22] at hK ⊢
     refine wpOp_step rfl (fun K2 hK2=>?_)
     go_simp
     exact hK2 _ _ (hK _ _ (Below.refl _ _) rfl)
    | n+24,ho=>exact absurd (Array.getElem?_eq_some_iff.1 ho).1 (by simp)
   case done =>
    intro x z hz hres
    have q23:x 35 = .bool true:=hres 23 _ _ rfl rfl
    have HZ:=hid (below_step hB.out hz)
    have KZ:=hid (hKs.out.below hz)
    clear hres hz
    dsimp only
    simp only [q23]
    go_wp2
    go_ret
    exact boolR HN2.out HZ.out
  | true =>
   have hbh2:=of_decide_eq_true hbh
   by_cases hi0:i=0
   ·have HN2:=hid (HYE.out hbh2 (fun h=>absurd h (by omega)))
    have hgt:decide ((0:Int)<(i:Int))=false:=decide_eq_false (by omega)
    have hgt':decide (0<i)=false:=decide_eq_false (by omega)
    obtain ⟨x,hx⟩:∃ x,l[i]=x:=⟨_,rfl⟩
    rw [hx] at HQI HHI
    obtain ⟨x1,x2⟩:=x
    clear HYE HNO HQ hN hx hbh hbh2 hi0
    obtain ⟨ix,hix⟩:∃ ix,ix=i:=⟨_,rfl⟩
    subst hix
    go_upto_region 4 with fail
    have hmxx:Tryz.prog.follows .mixedOrders=true:=by kernel_rfl
    refine wp_plain (wp_region_flow (fun x=>{ tmps:=#[.agg #[v1,v2,v3,v4],.slice (some ⟨bb,o,none⟩) l.length cv,.pointer (some ⟨w.heap.size,0,none⟩),undef,u4,.int .i64 (ix:Int),.int .i64 (ix:Int),.slice (some ⟨bb,o,none⟩) l.length cv,.int .i64 (l.length:Int),.bool true,u10,u11,(x 12),(x 13),(x 14),(x 15),(x 16),(x 17),(x 18),(x 19),(x 20),(x 21),(x 22),(x 23),(x 24),(x 25),(x 26),(x 27),(x 28),(x 29),(x 30),(x 31),(x 32),(x 33),(x 34),(x 35)],defers:=[] }) (fun i v z=>match i with
     | 0=>v = .agg #[v1,v2,v3,v4]
     | 1=>v = .slice (some ⟨bb,o,none⟩) l.length cv
     | 2=>v = .int .i64 (ix:Int)
     | 3=>v = .pointer (some ⟨bb,o+ix * 2,none⟩)
     | 4=>v = .agg #[.int .i64 x1,.int .i64 x2]
     | 5=>v = .bool true
     | 6=>v = .bool false
     | 7=>v = .bool false
     | 8=>v = .int .i64 (ix:Int)
     | 9=>v = .bool false
     | 10=>v = .bool false
     | 11=>v=undef
     | 12=>v=undef
     | 13=>v=undef
     | 14=>v=undef
     | 15=>v=undef
     | 16=>v=undef
     | 17=>v=undef
     | 18=>v=undef
     | 19=>v=undef
     | 20=>v=undef
     | 21=>v=undef
     | 22=>v = .bool false
     | 23=>v = .bool false
     | _=>True) (fun n=>(#[.agg #[v1,v2,v3,v4],.slice (some ⟨bb,o,none⟩) l.length cv,.pointer (some ⟨w.heap.size,0,none⟩),undef,u4,.int .i64 (ix:Int),.int .i64 (ix:Int),.slice (some ⟨bb,o,none⟩) l.length cv,.int .i64 (l.length:Int),.bool true,u10,u11,u12,u13,u14,u15,u16,u17,u18,u19,u20,u21,u22,u23,u24,u25,u26,u27,u28,u29,u30,u31,u32,u33,u34,u35]:Array Value).getD n undef) rfl hmxx (by kernel_rfl) (by kernel_rfl) ?mono ?put ?step ?done)
    case mono =>
     intro i v z z' h hb
     match i,h with
     | 0,h | 1,h | 2,h | 3,h | 4,h | 5,h | 6,h | 7,h | 8,h | 9,h | 10,h | 11,h | 12,h | 13,h | 14,h | 15,h | 16,h | 17,h | 18,h | 19,h | 20,h | 21,h | 22,h | 23,h => exact h
     | _+24,_=>trivial
    case put =>
     intro i o d ho hd x v
     match i,ho with
     | 0,ho | 1,ho | 2,ho | 3,ho | 4,ho | 5,ho | 6,ho | 7,ho | 8,ho | 9,ho | 10,ho | 11,ho | 12,ho | 13,ho | 14,ho | 15,ho | 16,ho | 17,ho | 18,ho | 19,ho | 20,ho | 21,ho | 22,ho | 23,ho => obtain rfl:=oj ho;obtain rfl:=oj hd;rfl
     | n+24,ho=>exact absurd (Array.getElem?_eq_some_iff.1 ho).1 (by simp)
    case step =>
     intro i o ho x z hz hdep K hK
     match i,ho with
     | 0,ho =>
      obtain rfl:=oj ho
      clear hdep ho
      dsimp only at hK ⊢
      obtain ⟨s0,s1,s2,s3⟩:=(hKs.out.below hz).four
      refine wpOp_step rfl (fun K2 hK2=>?_)
      go_simp
      exact hK2 _ _ (hK _ _ (Below.refl _ _) rfl)
     | 1,ho | 2,ho =>
      obtain rfl:=oj ho
      clear hdep ho
      dsimp only at hK ⊢
      refine wpOp_step rfl (fun K2 hK2=>?_)
      go_simp
      exact hK2 _ _ (hK _ _ (Below.refl _ _) rfl)
     | 3,ho =>
      obtain rfl:=oj ho
      have q1:x 13 = .slice (some ⟨bb,o,none⟩) l.length cv:=hdep 1 (by kernel_rfl) _ _ rfl rfl
      have q2:x 14 = .int .i64 (ix:Int):=hdep 2 (by kernel_rfl) _ _ rfl rfl
      clear hdep ho
      dsimp only at hK ⊢
      simp only [q1,q2] at hK ⊢
      refine wpOp_step rfl (fun K2 hK2=>?_)
      go_simp
      exact hK2 _ _ (hK _ _ (Below.refl _ _) rfl)
     | 4,ho =>
      obtain rfl:=oj ho
      have q3:x 15 = .pointer (some ⟨bb,o+ix * 2,none⟩):=hdep 3 (by kernel_rfl) _ _ rfl rfl
      clear hdep ho
      dsimp only at hK ⊢
      simp only [q3] at hK ⊢
      obtain ⟨p0,p1⟩:=HQI.out z hz
      refine wpOp_step rfl (fun K2 hK2=>?_)
      go_simp
      exact hK2 _ _ (hK _ _ (Below.refl _ _) rfl)
     | 5,ho =>
      obtain rfl:=oj ho
      have q0:x 12 = .agg #[v1,v2,v3,v4]:=hdep 0 (by kernel_rfl) _ _ rfl rfl
      have q4:x 16 = .agg #[.int .i64 x1,.int .i64 x2]:=hdep 4 (by kernel_rfl) _ _ rfl rfl
      clear hdep ho
      dsimp only at hK ⊢
      simp only [q0,q4] at hK ⊢
      refine wpOp_step rfl (fun K2 hK2=>?_)
      go_simp
      refine (HHI.out z hz).mono ?_
      rintro e z1 ⟨rfl,hb⟩
      exact hK2 _ _ (hK _ _ hb rfl)
     | 6,ho =>
      obtain rfl:=oj ho
      have q5:x 17 = .bool true:=hdep 5 (by kernel_rfl) _ _ rfl rfl
      clear hdep ho
      dsimp only at hK ⊢
      simp only [q5] at hK ⊢
      refine wpOp_step rfl (fun K2 hK2=>?_)
      go_simp
      exact hK2 _ _ (hK _ _ (Below.refl _ _) rfl)
     | 7,ho =>
      obtain rfl:=oj ho
      have q6:x 18 = .bool false:=hdep 6 (by kernel_rfl) _ _ rfl rfl
      clear hdep ho
      dsimp only at hK ⊢
      simp only [q6] at hK ⊢
      refine wpOp_step rfl (fun K2 hK2=>?_)
      go_simp
      exact hK2 _ _ (hK _ _ (Below.refl _ _) rfl)
     | 8,ho =>
      obtain rfl:=oj ho
      have q7:x 19 = .bool false:=hdep 7 (by kernel_rfl) _ _ rfl rfl
      clear hdep ho
      dsimp only at hK ⊢
      simp only [q7] at hK ⊢
      refine wpOp_step rfl (fun K2 hK2=>?_)
      go_simp
      exact hK2 _ _ (hK _ _ (Below.refl _ _) rfl)
     | 9,ho =>
      obtain rfl:=oj ho
      have q7:x 19 = .bool false:=hdep 7 (by kernel_rfl) _ _ rfl rfl
      have q8:x 20 = .int .i64 (ix:Int):=hdep 8 (by kernel_rfl) _ _ rfl rfl
      clear hdep ho
      dsimp only at hK ⊢
      simp only [q7,q8] at hK ⊢
      refine wpOp_step rfl (fun K2 hK2=>?_)
      go_simp
      exact hK2 _ _ (hK _ _ (Below.refl _ _) rfl)
     | 10,ho =>
      obtain rfl:=oj ho
      have q7:x 19 = .bool false:=hdep 7 (by kernel_rfl) _ _ rfl rfl
      have q9:x 21 = .bool false:=hdep 9 (by kernel_rfl) _ _ rfl rfl
      clear hdep ho
      dsimp only at hK ⊢
      simp only [q7,q9] at hK ⊢
      refine wpOp_step rfl (fun K2 hK2=>?_)
      go_simp
      exact hK2 _ _ (hK _ _ (Below.refl _ _) rfl)
     | 11,ho | 12,ho | 13,ho | 14,ho | 15,ho | 16,ho | 17,ho | 18,ho | 19,ho | 20,ho | 21,ho =>
      obtain rfl:=oj ho
      have q10:x 22 = .bool false:=hdep 10 (by kernel_rfl) _ _ rfl rfl
      clear hdep ho
      dsimp only at hK ⊢
      simp only [q10] at hK ⊢
      refine wpOp_step rfl (fun K2 hK2=>?_)
      go_simp
      exact hK2 _ _ (hK _ _ (Below.refl _ _) rfl)
     | 22,ho =>
      obtain rfl:=oj ho
      have q7:x 19 = .bool false:=hdep 7 (by kernel_rfl) _ _ rfl rfl
      have q10:x 22 = .bool false:=hdep 10 (by kernel_rfl) _ _ rfl rfl
      have q21:x 33=undef:=hdep 21 (by kernel_rfl) _ _ rfl rfl
      clear hdep ho
      dsimp only at hK ⊢
      simp only [q7,q10,q21] at hK ⊢
      refine wpOp_step rfl (fun K2 hK2=>?_)
      go_simp
      exact hK2 _ _ (hK _ _ (Below.refl _ _) rfl)
     | 23,ho =>
      obtain rfl:=oj ho
      have q7:x 19 = .bool false:=hdep 7 (by kernel_rfl) _ _ rfl rfl
      have q22:x 34 = .bool false:=hdep 22 (by kernel_rfl) _ _ rfl rfl
      clear hdep ho
      dsimp only at hK ⊢
      simp only [q7,q22] at hK ⊢
      refine wpOp_step rfl (fun K2 hK2=>?_)
      go_simp
      exact hK2 _ _ (hK _ _ (Below.refl _ _) rfl)
     | n+24,ho=>exact absurd (Array.getElem?_eq_some_iff.1 ho).1 (by simp)
    case done =>
     intro x z hz hres
     have q23:x 35 = .bool false:=hres 23 _ _ rfl rfl
     have HZ:=hid (below_step hB.out hz)
     have KZ:=hid (hKs.out.below hz)
     clear hres hz
     dsimp only
     simp only [q23]
     go_wp2
     go_roundw
     case rel=>exact ⟨ix+1,by omega,by go_num,HN2,HZ,KZ⟩
     case measure=>simp [intOf];omega
   ·have hi0':0<i:=by omega
    have HQJ:=hid (fun (z:World) (hz:Below wr.heap.size wr z)=>HQ.out z hz (i-1) (by omega))
    have hi1:((i-1:Nat):Int)=(i:Int)-1:=by omega
    have hwr:IntKind.i64.wrap ((i:Int)-1)=((i-1:Nat):Int):=by rw [hi1];exact IntWalk.i64_in _ (by omega)
    have hgt:decide ((0:Int)<(i:Int))=true:=decide_eq_true (by omega)
    have hgt':decide (0<i)=true:=decide_eq_true (by omega)
    have him:((i-1:Nat):Int)<(l.length:Int):=by omega
    obtain ⟨m,hm⟩:∃ m,i-1=m:=⟨_,rfl⟩
    obtain ⟨br,hbr⟩:∃ br,decide (ppLt (l[i-1]'(by omega)) l[i])=br:=⟨_,rfl⟩
    have HBE:=hid (fun (z:World)=>show Calls Tryz.prog 96 #[.agg #[.int .i64 (l[i-1]'(by omega)).1,.int .i64 (l[i-1]'(by omega)).2],.agg #[.int .i64 l[i].1,.int .i64 l[i].2]] z (BoolR br z) from by
     rw [← hbr]
     exact before30_any _ _ _ _ z)
    have HYE2:=hid (fun (h:br=true)=>HYE.out hbh2 (fun _=>of_decide_eq_true (hbr.trans h)))
    have HNO2:=hid (fun (h:br=false)=>HNO.out (.inr ⟨hi0',of_decide_eq_false (hbr.trans h)⟩))
    obtain ⟨x,hx⟩:∃ x,l[i]=x:=⟨_,rfl⟩
    obtain ⟨y,hy⟩:∃ y,l[i-1]'(by omega)=y:=⟨_,rfl⟩
    rw [hx] at HQI HHI HBE
    rw [hy] at HQJ HBE
    rw [hm] at hwr HQJ him
    obtain ⟨x1,x2⟩:=x
    obtain ⟨y1,y2⟩:=y
    clear HYE HNO HQ hN hx hbh hbh2 hy hi1 hbr hi0
    obtain ⟨ix,hix⟩:∃ ix,ix=i:=⟨_,rfl⟩
    subst hix
    go_upto_region 4 with fail
    have hmxx:Tryz.prog.follows .mixedOrders=true:=by kernel_rfl
    refine wp_plain (wp_region_flow (fun x=>{ tmps:=#[.agg #[v1,v2,v3,v4],.slice (some ⟨bb,o,none⟩) l.length cv,.pointer (some ⟨w.heap.size,0,none⟩),undef,u4,.int .i64 (ix:Int),.int .i64 (ix:Int),.slice (some ⟨bb,o,none⟩) l.length cv,.int .i64 (l.length:Int),.bool true,u10,u11,(x 12),(x 13),(x 14),(x 15),(x 16),(x 17),(x 18),(x 19),(x 20),(x 21),(x 22),(x 23),(x 24),(x 25),(x 26),(x 27),(x 28),(x 29),(x 30),(x 31),(x 32),(x 33),(x 34),(x 35)],defers:=[] }) (fun i v z=>match i with
     | 0=>v = .agg #[v1,v2,v3,v4]
     | 1=>v = .slice (some ⟨bb,o,none⟩) l.length cv
     | 2=>v = .int .i64 (ix:Int)
     | 3=>v = .pointer (some ⟨bb,o+ix * 2,none⟩)
     | 4=>v = .agg #[.int .i64 x1,.int .i64 x2]
     | 5=>v = .bool true
     | 6=>v = .bool false
     | 7=>v = .bool false
     | 8=>v = .int .i64 (ix:Int)
     | 9=>v = .bool true
     | 10=>v = .bool true
     | 11=>v = .slice (some ⟨bb,o,none⟩) l.length cv
     | 12=>v = .int .i64 (ix:Int)
     | 13=>v = .int .i64 (m:Int)
     | 14=>v = .pointer (some ⟨bb,o+m * 2,none⟩)
     | 15=>v = .agg #[.int .i64 y1,.int .i64 y2]
     | 16=>v = .slice (some ⟨bb,o,none⟩) l.length cv
     | 17=>v = .int .i64 (ix:Int)
     | 18=>v = .pointer (some ⟨bb,o+ix * 2,none⟩)
     | 19=>v = .agg #[.int .i64 x1,.int .i64 x2]
     | 20=>v = .bool br
     | 21=>v = .bool (!br)
     | 22=>v = .bool (!br)
     | 23=>v = .bool (!br)
     | _=>True) (fun n=>(#[.agg #[v1,v2,v3,v4],.slice (some ⟨bb,o,none⟩) l.length cv,.pointer (some ⟨w.heap.size,0,none⟩),undef,u4,.int .i64 (ix:Int),.int .i64 (ix:Int),.slice (some ⟨bb,o,none⟩) l.length cv,.int .i64 (l.length:Int),.bool true,u10,u11,u12,u13,u14,u15,u16,u17,u18,u19,u20,u21,u22,u23,u24,u25,u26,u27,u28,u29,u30,u31,u32,u33,u34,u35]:Array Value).getD n undef) rfl hmxx (by kernel_rfl) (by kernel_rfl) ?mono ?put ?step ?done)
    case mono =>
     intro i v z z' h hb
     match i,h with
     | 0,h | 1,h | 2,h | 3,h | 4,h | 5,h | 6,h | 7,h | 8,h | 9,h | 10,h | 11,h | 12,h | 13,h | 14,h | 15,h | 16,h | 17,h | 18,h | 19,h | 20,h | 21,h | 22,h | 23,h => exact h
     | _+24,_=>trivial
    case put =>
     intro i o d ho hd x v
     match i,ho with
     | 0,ho | 1,ho | 2,ho | 3,ho | 4,ho | 5,ho | 6,ho | 7,ho | 8,ho | 9,ho | 10,ho | 11,ho | 12,ho | 13,ho | 14,ho | 15,ho | 16,ho | 17,ho | 18,ho | 19,ho | 20,ho | 21,ho | 22,ho | 23,ho => obtain rfl:=oj ho;obtain rfl:=oj hd;rfl
     | n+24,ho=>exact absurd (Array.getElem?_eq_some_iff.1 ho).1 (by simp)
    case step =>
     intro i o ho x z hz hdep K hK
     match i,ho with
     | 0,ho =>
      obtain rfl:=oj ho
      clear hdep ho
      dsimp only at hK ⊢
      obtain ⟨s0,s1,s2,s3⟩:=(hKs.out.below hz).four
      refine wpOp_step rfl (fun K2 hK2=>?_)
      go_simp
      exact hK2 _ _ (hK _ _ (Below.refl _ _) rfl)
     | 1,ho | 2,ho =>
      obtain rfl:=oj ho
      clear hdep ho
      dsimp only at hK ⊢
      refine wpOp_step rfl (fun K2 hK2=>?_)
      go_simp
      exact hK2 _ _ (hK _ _ (Below.refl _ _) rfl)
     | 3,ho =>
      obtain rfl:=oj ho
      have q1:x 13 = .slice (some ⟨bb,o,none⟩) l.length cv:=hdep 1 (by kernel_rfl) _ _ rfl rfl
      have q2:x 14 = .int .i64 (ix:Int):=hdep 2 (by kernel_rfl) _ _ rfl rfl
      clear hdep ho
      dsimp only at hK ⊢
      simp only [q1,q2] at hK ⊢
      refine wpOp_step rfl (fun K2 hK2=>?_)
      go_simp
      exact hK2 _ _ (hK _ _ (Below.refl _ _) rfl)
     | 4,ho =>
      obtain rfl:=oj ho
      have q3:x 15 = .pointer (some ⟨bb,o+ix * 2,none⟩):=hdep 3 (by kernel_rfl) _ _ rfl rfl
      clear hdep ho
      dsimp only at hK ⊢
      simp only [q3] at hK ⊢
      obtain ⟨p0,p1⟩:=HQI.out z hz
      refine wpOp_step rfl (fun K2 hK2=>?_)
      go_simp
      exact hK2 _ _ (hK _ _ (Below.refl _ _) rfl)
     | 5,ho =>
      obtain rfl:=oj ho
      have q0:x 12 = .agg #[v1,v2,v3,v4]:=hdep 0 (by kernel_rfl) _ _ rfl rfl
      have q4:x 16 = .agg #[.int .i64 x1,.int .i64 x2]:=hdep 4 (by kernel_rfl) _ _ rfl rfl
      clear hdep ho
      dsimp only at hK ⊢
      simp only [q0,q4] at hK ⊢
      refine wpOp_step rfl (fun K2 hK2=>?_)
      go_simp
      refine (HHI.out z hz).mono ?_
      rintro e z1 ⟨rfl,hb⟩
      exact hK2 _ _ (hK _ _ hb rfl)
     | 6,ho =>
      obtain rfl:=oj ho
      have q5:x 17 = .bool true:=hdep 5 (by kernel_rfl) _ _ rfl rfl
      clear hdep ho
      dsimp only at hK ⊢
      simp only [q5] at hK ⊢
      refine wpOp_step rfl (fun K2 hK2=>?_)
      go_simp
      exact hK2 _ _ (hK _ _ (Below.refl _ _) rfl)
     | 7,ho =>
      obtain rfl:=oj ho
      have q6:x 18 = .bool false:=hdep 6 (by kernel_rfl) _ _ rfl rfl
      clear hdep ho
      dsimp only at hK ⊢
      simp only [q6] at hK ⊢
      refine wpOp_step rfl (fun K2 hK2=>?_)
      go_simp
      exact hK2 _ _ (hK _ _ (Below.refl _ _) rfl)
     | 8,ho =>
      obtain rfl:=oj ho
      have q7:x 19 = .bool false:=hdep 7 (by kernel_rfl) _ _ rfl rfl
      clear hdep ho
      dsimp only at hK ⊢
      simp only [q7] at hK ⊢
      refine wpOp_step rfl (fun K2 hK2=>?_)
      go_simp
      exact hK2 _ _ (hK _ _ (Below.refl _ _) rfl)
     | 9,ho =>
      obtain rfl:=oj ho
      have q7:x 19 = .bool false:=hdep 7 (by kernel_rfl) _ _ rfl rfl
      have q8:x 20 = .int .i64 (ix:Int):=hdep 8 (by kernel_rfl) _ _ rfl rfl
      clear hdep ho
      dsimp only at hK ⊢
      simp only [q7,q8] at hK ⊢
      refine wpOp_step rfl (fun K2 hK2=>?_)
      go_simp
      exact hK2 _ _ (hK _ _ (Below.refl _ _) rfl)
     | 10,ho =>
      obtain rfl:=oj ho
      have q7:x 19 = .bool false:=hdep 7 (by kernel_rfl) _ _ rfl rfl
      have q9:x 21 = .bool true:=hdep 9 (by kernel_rfl) _ _ rfl rfl
      clear hdep ho
      dsimp only at hK ⊢
      simp only [q7,q9] at hK ⊢
      refine wpOp_step rfl (fun K2 hK2=>?_)
      go_simp
      exact hK2 _ _ (hK _ _ (Below.refl _ _) rfl)
     | 11,ho | 12,ho | 16,ho | 17,ho =>
      obtain rfl:=oj ho
      have q10:x 22 = .bool true:=hdep 10 (by kernel_rfl) _ _ rfl rfl
      clear hdep ho
      dsimp only at hK ⊢
      simp only [q10] at hK ⊢
      refine wpOp_step rfl (fun K2 hK2=>?_)
      go_simp
      exact hK2 _ _ (hK _ _ (Below.refl _ _) rfl)
     | 13,ho =>
      obtain rfl:=oj ho
      have q10:x 22 = .bool true:=hdep 10 (by kernel_rfl) _ _ rfl rfl
      have q12:x 24 = .int .i64 (ix:Int):=hdep 12 (by kernel_rfl) _ _ rfl rfl
      clear hdep ho
      dsimp only at hK ⊢
      simp only [q10,q12] at hK ⊢
      refine wpOp_step rfl (fun K2 hK2=>?_)
      go_simp
      exact hK2 _ _ (hK _ _ (Below.refl _ _) rfl)
     | 14,ho =>
      obtain rfl:=oj ho
      have q10:x 22 = .bool true:=hdep 10 (by kernel_rfl) _ _ rfl rfl
      have q11:x 23 = .slice (some ⟨bb,o,none⟩) l.length cv:=hdep 11 (by kernel_rfl) _ _ rfl rfl
      have q13:x 25 = .int .i64 (m:Int):=hdep 13 (by kernel_rfl) _ _ rfl rfl
      clear hdep ho
      dsimp only at hK ⊢
      simp only [q10,q11,q13] at hK ⊢
      refine wpOp_step rfl (fun K2 hK2=>?_)
      go_simp
      exact hK2 _ _ (hK _ _ (Below.refl _ _) rfl)
     | 15,ho =>
      obtain rfl:=oj ho
      have q10:x 22 = .bool true:=hdep 10 (by kernel_rfl) _ _ rfl rfl
      have q14:x 26 = .pointer (some ⟨bb,o+m * 2,none⟩):=hdep 14 (by kernel_rfl) _ _ rfl rfl
      clear hdep ho
      dsimp only at hK ⊢
      simp only [q10,q14] at hK ⊢
      obtain ⟨p0,p1⟩:=HQJ.out z hz
      refine wpOp_step rfl (fun K2 hK2=>?_)
      go_simp
      exact hK2 _ _ (hK _ _ (Below.refl _ _) rfl)
     | 18,ho =>
      obtain rfl:=oj ho
      have q10:x 22 = .bool true:=hdep 10 (by kernel_rfl) _ _ rfl rfl
      have q16:x 28 = .slice (some ⟨bb,o,none⟩) l.length cv:=hdep 16 (by kernel_rfl) _ _ rfl rfl
      have q17:x 29 = .int .i64 (ix:Int):=hdep 17 (by kernel_rfl) _ _ rfl rfl
      clear hdep ho
      dsimp only at hK ⊢
      simp only [q10,q16,q17] at hK ⊢
      refine wpOp_step rfl (fun K2 hK2=>?_)
      go_simp
      exact hK2 _ _ (hK _ _ (Below.refl _ _) rfl)
     | 19,ho =>
      obtain rfl:=oj ho
      have q10:x 22 = .bool true:=hdep 10 (by kernel_rfl) _ _ rfl rfl
      have q18:x 30 = .pointer (some ⟨bb,o+ix * 2,none⟩):=hdep 18 (by kernel_rfl) _ _ rfl rfl
      clear hdep ho
      dsimp only at hK ⊢
      simp only [q10,q18] at hK ⊢
      obtain ⟨p0,p1⟩:=HQI.out z hz
      refine wpOp_step rfl (fun K2 hK2=>?_)
      go_simp
      exact hK2 _ _ (hK _ _ (Below.refl _ _) rfl)
     | 20,ho =>
      obtain rfl:=oj ho
      have q10:x 22 = .bool true:=hdep 10 (by kernel_rfl) _ _ rfl rfl
      have q15:x 27 = .agg #[.int .i64 y1,.int .i64 y2]:=hdep 15 (by kernel_rfl) _ _ rfl rfl
      have q19:x 31 = .agg #[.int .i64 x1,.int .i64 x2]:=hdep 19 (by kernel_rfl) _ _ rfl rfl
      clear hdep ho
      dsimp only at hK ⊢
      simp only [q10,q15,q19] at hK ⊢
      refine wpOp_step rfl (fun K2 hK2=>?_)
      go_simp
      refine (HBE.out z).mono ?_
      rintro e z1 ⟨rfl,hb⟩
      exact hK2 _ _ (hK _ _ hb rfl)
     | 21,ho =>
      obtain rfl:=oj ho
      have q10:x 22 = .bool true:=hdep 10 (by kernel_rfl) _ _ rfl rfl
      have q20:x 32 = .bool br:=hdep 20 (by kernel_rfl) _ _ rfl rfl
      clear hdep ho
      dsimp only at hK ⊢
      simp only [q10,q20] at hK ⊢
      refine wpOp_step rfl (fun K2 hK2=>?_)
      go_simp
      exact hK2 _ _ (hK _ _ (Below.refl _ _) rfl)
     | 22,ho =>
      obtain rfl:=oj ho
      have q7:x 19 = .bool false:=hdep 7 (by kernel_rfl) _ _ rfl rfl
      have q10:x 22 = .bool true:=hdep 10 (by kernel_rfl) _ _ rfl rfl
      have q21:x 33 = .bool (!br):=hdep 21 (by kernel_rfl) _ _ rfl rfl
      clear hdep ho
      dsimp only at hK ⊢
      simp only [q7,q10,q21] at hK ⊢
      refine wpOp_step rfl (fun K2 hK2=>?_)
      go_simp
      exact hK2 _ _ (hK _ _ (Below.refl _ _) rfl)
     | 23,ho =>
      obtain rfl:=oj ho
      have q7:x 19 = .bool false:=hdep 7 (by kernel_rfl) _ _ rfl rfl
      have q22:x 34 = .bool (!br):=hdep 22 (by kernel_rfl) _ _ rfl rfl
      clear hdep ho
      dsimp only at hK ⊢
      simp only [q7,q22] at hK ⊢
      refine wpOp_step rfl (fun K2 hK2=>?_)
      go_simp
      exact hK2 _ _ (hK _ _ (Below.refl _ _) rfl)
     | n+24,ho=>exact absurd (Array.getElem?_eq_some_iff.1 ho).1 (by simp)
    case done =>
     intro x z hz hres
     have q23:x 35 = .bool (!br):=hres 23 _ _ rfl rfl
     have HZ:=hid (below_step hB.out hz)
     have KZ:=hid (hKs.out.below hz)
     clear hres hz
     dsimp only
     simp only [q23]
     cases br with
     | false =>
      have HN3:=hid (HNO2.out rfl)
      go_wp2
      go_ret
      exact boolR HN3.out HZ.out
     | true =>
      have HN3:=hid (HYE2.out rfl)
      go_wp2
      go_roundw
      case rel=>exact ⟨ix+1,by omega,by go_num,HN3,HZ,KZ⟩
      case measure=>simp [intOf];omega
 ·have hi2:¬ (i:Int)<(l.length:Int):=by omega
  have hie:i=l.length:=by omega
  have HE:=hid (show pipB S l=true from pipB_iff.2 ⟨risN_all (R:=ppLt) (fun h k=>ppLt_trans h k) (by rw [← hie];exact hN.out.1),fun p hp=>by
   obtain ⟨j,hj,rfl⟩:=List.getElem_of_mem hp
   exact hN.out.2 j hj (by omega)⟩)
  clear hie
  go_wp2
  go_ret
  exact boolR HE.out hB.out
theorem trlE_bad {S:Sp} {L:List Tl} (h:(checkP S).2≠0):trlE S L=(checkP S).2:=by unfold trlE;rw [if_pos h]
theorem trlE_long {S:Sp} {L:List Tl} (h:(checkP S).2=0) (hl:20<L.length):trlE S L=3:=by unfold trlE;rw [if_neg (by omega),if_pos hl]
theorem trlE_in {S:Sp} {L:List Tl} (h:(checkP S).2=0) (hl:¬ 20<L.length):trlE S L=firstErr (tlF S L) L.length:=by unfold trlE;rw [if_neg (by omega),if_neg hl]
theorem trlE_at {S:Sp} {L:List Tl} (h:(checkP S).2=0) (hl:¬ 20<L.length) {i:Nat} (hi:i<L.length) (h0:firstErr (tlF S L) i=0) {e:Int} (he:tlF S L i=e) (hne:e≠0):trlE S L=e:=by
 have h1:firstErr (tlF S L) (i+1)=e:=(firstErr_next h0).trans he
 rw [trlE_in h hl,firstErr_at (k:=i+1) (by rw [h1];exact hne) hi,h1]
theorem tlF_at {S:Sp} {L:List Tl} {i:Nat} (hi:i<L.length):tlF S L i=if hndE S L[i].h≠0 then hndE S L[i].h else if pipB S L[i].l=true then 0 else 2:=by
 unfold tlF
 rw [List.getElem?_eq_getElem hi]
theorem any_has {S:Sp} {l:List Pp}:(l.any fun p=>!(decide (p∈allFrom 0 S.rs)))=!(l.all fun p=>decide (p∈allFrom 0 S.rs)):=by
 induction l with
 | nil=>rfl
 | cons p l ih=>rw [List.any_cons,List.all_cons,ih,Bool.not_and]
theorem checkD_any (v1 v2 v3 v4:Value) (S:Sp) (ok:SpWk S) (fp:Nat→Value) (L:List Tl) (hsm:∀ t∈L,HnSm t.h∧t.l.length≤1000000) (tv:Value) (gk gs gc gh:Nat→Value) (w:World) (ht:Tabs w) (hsp:SpRd w v1 v2 v3 v4 fp S) (htv:TlRd w tv L gk gs gc gh) (hll:L.length≤1000000) :
  Calls Tryz.prog 18 #[.agg #[v1,v2,v3,v4],tv] w (NumR (trlE S L) w):=by
 obtain ⟨at',ct,ev⟩:=htv.form
 subst ev
 have HSP:=hid hsp
 have HT:=hid htv
 have HTB:=hid ht
 have HOK:=hid ok
 have HSM:=hid hsm
 obtain ⟨fl,hfl⟩:∃ fl,(checkP S).1=fl:=⟨_,rfl⟩
 obtain ⟨ce,hce⟩:∃ ce,(checkP S).2=ce:=⟨_,rfl⟩
 have hcv:ckV (checkP S) = .tuple #[.agg #[.int .i64 fl.1,.int .i64 fl.2.1,.int .i64 fl.2.2],.int .i64 ce]:=by unfold ckV;rw [hfl,hce]
 have HCE:=hid hce
 have B0:=hid (Blk.new w 27 #[v1,v2,v3,v4])
 have HB:=hid (show Below w.heap.size w (w.alloc (.cells #[v1,v2,v3,v4] 27)) from (Below.refl _ _).alloc (Nat.le_refl _) _)
 have HCK:=hid (show Calls Tryz.prog 40 #[.agg #[v1,v2,v3,v4]] _ _ from (check_wk v1 v2 v3 v4 S ok _ (ht.below HB.out) fp (hsp.later HB.out)))
 rw [hcv] at HCK
 clear hsp ok hcv hfl hce ht htv hsm
 go_enter Tryz.func18,Tryz.ntmps18
 go_wp2_with fail
 refine HCK.out.mono ?_
 generalize w.alloc (.cells #[v1,v2,v3,v4] 27)=W at *
 rintro e W1 ⟨rfl,hb1⟩
 clear HCK
 obtain ⟨W2,hw2⟩:∃ W2,W1.alloc (.cells #[.int .i64 fl.1,.int .i64 fl.2.1,.int .i64 fl.2.2] 69)=W2:=⟨_,rfl⟩
 have hb2:Below W1.heap.size W1 W2:=by rw [← hw2];exact (Below.refl _ _).alloc (Nat.le_refl _) _
 have HB2:=hid (below_step (below_step HB.out hb1) hb2)
 have C0:=hid ((B0.out.below hb1).below hb2)
 clear hb1 hb2 HB B0
 by_cases hz:ce=0
 case neg =>
  have q1:(ce==0)=false:=by simpa using hz
  have q2:(ce != 0)=true:=by simpa using hz
  have HE:=hid (show trlE S L=ce by rw [trlE_bad (by rw [HCE.out];exact hz),HCE.out])
  clear hz
  go_wp2
  try rw [hw2]
  go_ret
  exact numR HE.out HB2.out
 subst hz
 by_cases hlen:20<L.length
 ·have d1:decide (20<L.length)=true:=decide_eq_true hlen
  have d2:decide ((20:Int)<(L.length:Int))=true:=decide_eq_true (by omega)
  have HE:=hid (trlE_long HCE.out hlen)
  clear hlen
  go_wp2
  try rw [hw2]
  go_ret
  exact numR HE.out HB2.out
 have d1:decide (20<L.length)=false:=decide_eq_false hlen
 have d2:decide ((20:Int)<(L.length:Int))=false:=decide_eq_false (by omega)
 have HL:=hid hlen
 clear hlen
 have HF0:Hid (firstErr (tlF S L) 0=0):=hid rfl
 go_wp2
 try rw [hw2]
 clear d1 d2 hw2
 go_loopw [23] (fun x wr=>∃ i:Nat,i≤L.length∧x = .int .i64 i∧Hid (firstErr (tlF S L) i=0)∧Hid (Below w.heap.size w wr)∧Hid (Blk wr w.heap.size 27 #[v1,v2,v3,v4])) (fun x _=>L.length-(intOf x).toNat)
 case atStart=>exact ⟨0,Nat.zero_le _,rfl,HF0,HB2,C0⟩
 clear HF0 HB2 C0
 obtain ⟨i,hi,rfl,hF0,hB,hC⟩:=hrel
 by_cases hil:i<L.length
 ·have hi2:(i:Int)<(L.length:Int):=by omega
  obtain ⟨b,o,c',ev,hbl,q0,q1,q2,q3⟩:=(HT.out.later hB.out).at' hil
  cases ev
  have HAT:=hid (fun (e:Int) (he:tlF S L i=e) (hne:e≠0)=>trlE_at HCE.out HL.out hil hF0.out he hne)
  have HTF:=hid (tlF_at (S:=S) hil)
  have HNX:=hid (fun (h:tlF S L i=0)=>show firstErr (tlF S L) (i+1)=0 from (firstErr_next hF0.out).trans h)
  obtain ⟨hs1,hs2⟩:=HSM.out _ (List.getElem_mem hil)
  have HCH:=hid (fun (W:World) (hb:Below w.heap.size w W)=>checkS_any v1 v2 v3 v4 S HOK.out fp (gk i) (gs i) (gc i) L[i].h hs1 W (HTB.out.below hb) (HSP.out.later hb) ((HT.out.later hb).hd i hil))
  have HRI:=hid (fun (W:World) (hb:Below w.heap.size w W)=>risingP_any L[i].l (gh i) W hs2 ((HT.out.later hb).pp i hil))
  have HAN:=hid (fun (W:World) (hb:Below w.heap.size w W)=>anyPipe_any L[i].l (gh i) W ((HT.out.later hb).pp i hil) hs2)
  obtain ⟨⟨ka,kc,ek⟩,⟨sa,sc,es⟩,⟨ca,cc,ec⟩⟩:=((HT.out.later hB.out).hd i hil).forms
  obtain ⟨pa,pc,ep⟩:=((HT.out.later hB.out).pp i hil).form
  rw [List.length_map] at ep
  rw [ek] at q0 HCH
  rw [es] at q1 HCH
  rw [ec] at q2 HCH
  rw [ep] at q3 HRI HAN
  obtain ⟨x,hx⟩:∃ x,L[i]=x:=⟨_,rfl⟩
  rw [hx] at HTF HCH HRI HAN q0 q1 q2 q3
  rw [show hnE S x.h=hndE S x.h from by unfold hnE;rw [if_neg (by rw [HCE.out];simp)]] at HCH
  clear hx hs1 hs2 ek es ec ep
  go_upto_region 9 with fail
  have hb4:Below wr.heap.size wr (wr.alloc (.cells #[.slice ka x.h.ks.length kc,.slice sa x.h.ss.length sc,.slice ca x.h.cs.length cc,.slice pa x.l.length pc] 58)):=(Below.refl _ wr).alloc (Nat.le_refl _) _
  have HB4:=hid (below_step hB.out hb4)
  have K4:=hid (Blk.new wr 58 #[.slice ka x.h.ks.length kc,.slice sa x.h.ss.length sc,.slice ca x.h.cs.length cc,.slice pa x.l.length pc])
  have C4:=hid (hC.out.below hb4)
  obtain ⟨X,hXe⟩:∃ X,wr.heap.size=X:=⟨_,rfl⟩
  rw [hXe] at K4 ⊢
  generalize wr.alloc (.cells #[.slice ka x.h.ks.length kc,.slice sa x.h.ss.length sc,.slice ca x.h.cs.length cc,.slice pa x.l.length pc] 58)=W4 at *
  obtain ⟨s0,s1,s2,s3⟩:=C4.out.four
  obtain ⟨y0,y1,y2,y3⟩:=K4.out.four
  clear hb4 hXe hB hC q0 q1 q2 q3 hF0
  go_wp2_with fail
  refine (HCH.out _ HB4.out).mono ?_
  rintro e W5 ⟨rfl,hb5⟩
  have HB5:=hid (below_step HB4.out hb5)
  have K5:=hid (K4.out.below hb5)
  have C5:=hid (C4.out.below hb5)
  clear hb5 HB4 K4 C4 s0 s1 s2 s3 y0 y1 y2 y3 HCH
  have z3:W5.cell? ⟨X,3,none⟩=some (.slice pa x.l.length pc):=K5.out.cell 3
  obtain ⟨he,hhe⟩:∃ he,hndE S x.h=he:=⟨_,rfl⟩
  rw [hhe] at HTF ⊢
  clear hhe
  by_cases hez:he=0
  case neg =>
   have f1:(he==0)=false:=by simpa using hez
   have f2:(he != 0)=true:=by simpa using hez
   have HE:=hid (HAT.out he (HTF.out.trans (if_pos hez)) hez)
   clear hez
   go_wp2
   go_ret
   exact numR HE.out HB5.out
  subst hez
  have HTF2:=hid (HTF.out.trans (if_neg (by simp)))
  clear HTF
  go_wp2_with fail
  refine (HRI.out _ HB5.out).mono ?_
  rintro e W6 ⟨rfl,hb6⟩
  have HB6:=hid (below_step HB5.out hb6)
  have K6:=hid (K5.out.below hb6)
  have C6:=hid (C5.out.below hb6)
  clear hb6 HB5 K5 C5 z3 HRI
  have z3:W6.cell? ⟨X,3,none⟩=some (.slice pa x.l.length pc):=K6.out.cell 3
  by_cases hri:x.l.Pairwise ppLt
  case neg =>
   have e1:decide (x.l.Pairwise ppLt)=false:=decide_eq_false hri
   have HE:=hid (HAT.out 2 (HTF2.out.trans (if_neg (fun h=>hri (pipB_iff.1 h).1))) (by decide))
   clear hri
   go_wp2
   go_ret
   exact numR HE.out HB6.out
  have e1:decide (x.l.Pairwise ppLt)=true:=decide_eq_true hri
  have eg1:∀ args w,(callFunc 44 args).run Tryz.prog w = .ok (.enter 44 args) w:=enters_of Tryz.func44 (by kernel_rfl) rfl
  have hA1:=hid (HAN.out W6 HB6.out (fun p=>!(decide (p∈allFrom 0 S.rs))) 44 #[.pointer (some ⟨w.heap.size,0,none⟩)] eg1 (fun W y hb=>(hasNot_any v1 v2 v3 v4 S HCE.out fp W (HSP.out.later (below_step HB6.out hb)) w.heap.size (C6.out.below hb) y.1 y.2).mono fun _ _ h=>⟨h.1,below_step hb h.2⟩))
  have HRI2:=hid hri
  clear hri eg1 HAN
  go_wp2_with fail
  refine hA1.out.mono ?_
  rintro e W7 ⟨rfl,hb7⟩
  have HB7:=hid (below_step HB6.out hb7)
  have C7:=hid (C6.out.below hb7)
  clear hb7 HB6 K6 C6 z3 hA1
  have HPB:=hid (show pipB S x.l=!(x.l.any fun p=>!(decide (p∈allFrom 0 S.rs))) from by
   unfold pipB
   rw [any_has,Bool.not_not,decide_eq_true HRI2.out,Bool.true_and])
  obtain ⟨bb,hbb⟩:∃ bb,(x.l.any fun p=>!(decide (p∈allFrom 0 S.rs)))=bb:=⟨_,rfl⟩
  rw [hbb] at HPB ⊢
  clear hbb
  cases bb with
  | true =>
   have HE:=hid (HAT.out 2 (HTF2.out.trans (if_neg (by rw [HPB.out];decide))) (by decide))
   go_wp2
   go_ret
   exact numR HE.out HB7.out
  | false =>
   have HN2:=hid (HNX.out (HTF2.out.trans (if_pos (by rw [HPB.out];rfl))))
   go_wp2
   go_roundw
   case rel=>exact ⟨i+1,by omega,by go_num,HN2,HB7,C7⟩
   case measure=>simp [intOf];omega
 ·have hi2:¬ (i:Int)<(L.length:Int):=by omega
  have hie:i=L.length:=by omega
  have HE:=hid (show trlE S L=0 by rw [trlE_in HCE.out HL.out,← hie];exact hF0.out)
  clear hie
  go_wp2
  go_ret
  exact numR HE.out hB.out
end Go.Proofs.YteflhbfgpknabaaGreatDoor
