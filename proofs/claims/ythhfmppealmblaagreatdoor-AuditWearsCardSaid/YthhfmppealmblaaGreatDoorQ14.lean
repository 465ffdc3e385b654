/-
  A part of the proof: AC.
-/
import Derived.Test.YthhfmppealmblaaGreatDoorQ11
import Derived.Test.YthhfmppealmblaaGreatDoorQ13
namespace Go.Proofs.YthhfmppealmblaaGreatDoor
open Go.RowKit
theorem evR_rec {S : Sp} {l : List Ev} {i : Nat} (hi : i < l.length) : evR S (tickB l i) (onV (l.take i)) l[i] = recF S l i:=by
 unfold evR recF
 rw [getD_at hi]
theorem recF_zero {S : Sp} {l : List Ev} {i : Nat} (hi : i < l.length) (h : recF S l i = 0) : tickB l i ≤ l[i].1∧l[i].1 ≤ 100000000∧evE S l[i] = 0:=by
 unfold recF at h
 rw [getD_at hi] at h
 by_cases a : l[i].1 < tickB l i ∨ 100000000 < l[i].1
 ·rw [if_pos a] at h; cases h
 ·rw [if_neg a] at h
  by_cases b : evE S l[i] = 0
  ·exact ⟨by omega,by omega,b⟩
  ·rw [if_neg b] at h; exact absurd h b
theorem tickB_pos {S : Sp} {l : List Ev} : ∀ {i : Nat},i ≤ l.length→(∀ j,j < i→recF S l j = 0)→0 ≤ tickB l i
 | 0,_,_ => Int.le_refl 0
 | i + 1,hi,h => by
  have ih:=tickB_pos (S:=S) (l:=l) (i:=i) (by omega) (fun j hj => h j (by omega))
  have:=(recF_zero (by omega) (h i (by omega))).1
  rw [tickB_next (by omega)]
  omega
theorem placed_at {S : Sp} (hc : (checkP S).2 = 0) {l : List Ev} {i : Nat} (hi : i < l.length) (h : recF S l i = 0) : Placed l[i]:=ev_placed hc (recF_zero hi h).2.2
theorem bin_take {S : Sp} (hc : (checkP S).2 = 0) {l : List Ev} : ∀ {i : Nat},i ≤ l.length→(∀ j,j < i→recF S l j = 0)→Bin (onV (l.take i))
 | 0,_,_ => bin_zero
 | i + 1,hi,h => by
  rw [onV_take (by omega)]
  exact bin_on (bin_take hc (by omega) (fun j hj => h j (by omega))) (placed_at hc (by omega) (h i (by omega)))
structure RcI (w : World) (B : Nat) (v1 v2 v3 v4 : Value) (wr : World) : Prop where
 b : Below w.heap.size w wr
 x : Blk wr w.heap.size 27 #[v1,v2,v3,v4]
 lt : w.heap.size < B
theorem RcI.next {w wr W2 : World} {B : Nat} {v1 v2 v3 v4 : Value} (h : RcI w B v1 v2 v3 v4 wr) (hb : Below wr.heap.size wr W2) (c : List Value) : RcI w B v1 v2 v3 v4 (W2.setCells B 0 c):=by
 have h1:=below_step h.b hb
 exact ⟨h1.grown (grown_cells _ _ _ _) h1.size (fun k e => by cases e; exact Nat.le_of_lt h.lt),blk_keep (h.x.below hb) (grown_cells B c 0 W2) (by have:=h.lt; omega),h.lt⟩
theorem RcI.below {w wr W2 : World} {B : Nat} {v1 v2 v3 v4 : Value} (h : RcI w B v1 v2 v3 v4 wr) (hb : Below wr.heap.size wr W2) : RcI w B v1 v2 v3 v4 W2:=⟨below_step h.b hb,h.x.below hb,h.lt⟩
theorem OnX.put {f g : Th→Int} {wr W2 : World} {B : Nat} {c c2 : Array Value} (h : Blk wr B 119 c) (hc : OnI f c) (hb : Below wr.heap.size wr W2) (h2 : OnI g c2) : OnX g (W2.setCells B 0 c2.toList) B:=⟨c2,h2,on_put (h.below hb) hc.size h2.size⟩
set_option maxRecDepth 100000 in
set_option maxHeartbeats 6400000 in
theorem rcheck31_any (v1 v2 v3 v4 : Value) (S : Sp) (ok : SpOk S) (f : Nat→Value) (l : List Ev) (vl : Value) (w : World) (hsp : SpRd w v1 v2 v3 v4 f S) (hl : l.length ≤ 1000000) (hlv : ARd w vl 5 (l.map evC)) :
  Calls Tryz.prog 50 #[.agg #[v1,v2,v3,v4],vl] w (RecR S l w):=by
 obtain ⟨al,cl,rfl⟩:=hlv.evForm
 have hb0 : Below w.heap.size w (w.alloc (.cells #[v1,v2,v3,v4] 27)):=(Below.refl _ _).alloc (Nat.le_refl _) _
 have HX:=Lib.hid (Blk.new w 27 #[v1,v2,v3,v4])
 have HB0:=Lib.hid hb0
 have HSP:=Lib.hid hsp
 have HOK:=Lib.hid ok
 have HLV:=Lib.hid hlv
 obtain ⟨fl,er,hck⟩ : ∃ (fl : Int × Int × Int) (er : Int),ckV (checkP S) = .tuple #[.agg #[.int .i64 fl.1,.int .i64 fl.2.1,.int .i64 fl.2.2],.int .i64 er]∧(checkP S).2 = er:=⟨_,_,rfl,rfl⟩
 have HCK:=Lib.hid hck.1
 have HER:=Lib.hid hck.2
 clear hb0 hsp ok hlv hck
 go_enter Tryz.func50,Tryz.ntmps50
 go_wp2_with fail
 refine (rcheck_any v1 v2 v3 v4 S HOK.out _ f (HSP.out.later HB0.out)).mono ?_
 rw [HCK.out]
 rintro e W1 ⟨rfl,hb1⟩
 obtain ⟨W2,hw2⟩ : ∃ W2,W1.alloc (.cells #[.int .i64 fl.1,.int .i64 fl.2.1,.int .i64 fl.2.2] 100) = W2:=⟨_,rfl⟩
 have hb2 : Below W1.heap.size W1 W2:=by rw [← hw2]; exact (Below.refl _ _).alloc (Nat.le_refl _) _
 have HB:=Lib.hid (below_step (below_step HB0.out hb1) hb2)
 have HX2:=Lib.hid ((HX.out.below hb1).below hb2)
 clear hb1 hb2
 by_cases he : er = 0
 ·have HE : RowKit.Hid ((checkP S).2 = 0):=by rw [HER.out]; exact Lib.hid he
  subst he
  by_cases hg : 20000 < l.length
  ·have HEX:=Lib.hid (recE_long HE.out hg)
   have hg2 : decide ((20000 : Int) < (l.length : Int)) = true:=by rw [decide_eq_true_iff]; omega
   clear hg
   go_wp2
   go_ret2
   exact recR HEX.out HB.out
  ·have HG:=Lib.hid hg
   have hg2 : decide ((20000 : Int) < (l.length : Int)) = false:=by rw [decide_eq_false_iff_not]; omega
   have hg3 : l.length ≤ 20000:=by omega
   clear hg
   go_upto_region 8 with fail
   have HI0:=Lib.hid (show RcI w W2.heap.size v1 v2 v3 v4 (W2.alloc (.cells Tryz.zeroCells119 119)) from ⟨below_step HB.out ((Below.refl _ _).alloc (Nat.le_refl _) _),HX2.out.alloc _,HX2.out.lt⟩)
   have HO0:=Lib.hid (show OnX (onV (l.take 0)) (W2.alloc (.cells Tryz.zeroCells119 119)) W2.heap.size from ⟨_,onI_zero,Blk.new W2 _ _⟩)
   obtain ⟨B,hB⟩ : ∃ B,W2.heap.size = B:=⟨_,rfl⟩
   rw [hB] at HI0 HO0 ⊢
   generalize W2.alloc (.cells Tryz.zeroCells119 119) = W3 at *
   clear hw2 hB HB HX2 HX HB0 HCK HER
   go_wp2
   go_loopw [9,10] (fun y x wr => ∃ i : Nat,i ≤ l.length∧y = .int .i64 (tickB l i)∧x = .int .i64 i∧RowKit.Hid (∀ j,j < i→recF S l j = 0)∧RowKit.Hid (OnX (onV (l.take i)) wr B)∧RowKit.Hid (RcI w B v1 v2 v3 v4 wr)) (fun _ x _ => l.length - (intOf x).toNat)
   case atStart => exact ⟨0,Nat.zero_le _,rfl,rfl,Lib.hid (fun j h => absurd h (Nat.not_lt_zero j)),HO0,HI0⟩
   clear HO0 HI0
   obtain ⟨i,hi,rfl,rfl,hF,hO,hI⟩:=hrel
   by_cases hil : i < l.length
   ·have hil2 : (i : Int) < (l.length : Int):=by omega
    obtain ⟨b,o,c',ev,hbl,k0,k1,k2,k3,k4⟩:=(HLV.out.later hI.out.b).evAt i hil
    cases ev
    have x0 : wr.cell? ⟨w.heap.size,0,none⟩ = some v1:=hI.out.x.cell 0
    have x1 : wr.cell? ⟨w.heap.size,1,none⟩ = some v2:=hI.out.x.cell 1
    have x2 : wr.cell? ⟨w.heap.size,2,none⟩ = some v3:=hI.out.x.cell 2
    have x3 : wr.cell? ⟨w.heap.size,3,none⟩ = some v4:=hI.out.x.cell 3
    obtain ⟨lt,hlt⟩ : ∃ lt,tickB l i = lt:=⟨_,rfl⟩
    obtain ⟨rc,hrc⟩ : ∃ rc,recF S l i = rc:=⟨_,rfl⟩
    obtain ⟨x,hx⟩ : ∃ x,l[i] = x:=⟨_,rfl⟩
    have HTP:=Lib.hid (show 0 ≤ lt by rw [← hlt]; exact tickB_pos hi hF.out)
    have HBN:=Lib.hid (bin_take HE.out hi hF.out)
    have HER:=Lib.hid (show evR S lt (onV (l.take i)) x = rc by rw [← hlt,← hrc,← hx]; exact evR_rec hil)
    have HTK:=Lib.hid (show onV (l.take (i + 1)) = onS (onV (l.take i)) x by rw [onV_take hil,hx])
    have HPX:=Lib.hid (show rc = 0→Placed x by rw [← hrc,← hx]; exact placed_at HE.out hil)
    have HRC:=Lib.hid hrc
    rw [hx] at k0 k1 k2 k3 k4
    rw [hlt]
    clear hx hlt hrc
    obtain ⟨cs,hon,hbk⟩:=hO.out.ex
    have HON:=Lib.hid hon
    have HBK:=Lib.hid hbk
    clear hon hbk
    go_upto_region 11 with fail
    refine wp_region_still_tail 7 (by kernel_rfl) (by kernel_rfl) ?_
    simp only [List.take_succ_cons,List.take_zero,List.drop_succ_cons,List.drop_zero]
    iterate 6 still_step
    refine still_load_on rfl _ rfl B rfl (c:=cs) HBK.out HON.out.size ?_
    simp only [Act.put]
    refine wpStill_nil ?_
    change wpList _ _ _ _ _ (World.drew wr)
    go_wp2_with fail
    refine (re_any v1 v2 v3 v4 S HOK.out HE.out f cs _ HON.out HBN.out lt HTP.out x wr.drew (HSP.out.later (below_drew hI.out.b))).mono ?_
    rw [HER.out]
    rintro e W4 ⟨rfl,hb4⟩
    have hb4':=below_undrew hb4
    have HI4:=Lib.hid (hI.out.below hb4')
    have HBK4:=Lib.hid (HBK.out.below hb4')
    replace k0:=(hb4'.cell (cell_size k0)).trans k0
    replace k1:=(hb4'.cell (cell_size k1)).trans k1
    replace k2:=(hb4'.cell (cell_size k2)).trans k2
    replace k3:=(hb4'.cell (cell_size k3)).trans k3
    replace k4:=(hb4'.cell (cell_size k4)).trans k4
    clear hb4 hb4' x0 x1 x2 x3 hI HBK hO
    by_cases hrc0 : rc = 0
    ·have HPL:=Lib.hid (HPX.out hrc0)
     have HFN:=Lib.hid (upto_next hF.out (by rw [HRC.out,hrc0]))
     subst hrc0
     go_upto_region 14 with fail
     refine wp_region_still_tail 5 (by kernel_rfl) (by kernel_rfl) ?_
     simp only [List.take_succ_cons,List.take_zero,List.drop_succ_cons,List.drop_zero]
     refine still_load_on rfl _ rfl B rfl (c:=cs) HBK4.out HON.out.size ?_
     simp only [Act.put]
     iterate 4 still_step
     refine wpStill_nil ?_
     change wpList _ _ _ _ _ (World.drew W4)
     go_wp2_with fail
     refine (after_any cs _ HON.out x HPL.out W4.drew).mono ?_
     rintro e W5 ⟨c2,rfl,hon5,hb5⟩
     rename ∀ (a : Act) (w : World),wpList _ _ _ _ a w→_ => hkk
     dsimp only
     refine hkk _ _ ?_
     clear hkk
     have hb5':=below_undrew hb5
     have HBK5:=Lib.hid (HBK4.out.below hb5')
     have HON5:=Lib.hid hon5
     have HO5:=Lib.hid (show OnX (onV (l.take (i + 1))) (W5.setCells B 0 c2.toList) B by rw [HTK.out]; exact OnX.put HBK4.out HON.out hb5' hon5)
     have HI5:=Lib.hid (HI4.out.next hb5' c2.toList)
     obtain ⟨b9,o9,c9,ev9,hbl9,q0,q1,q2,q3,q4⟩:=(HLV.out.later HI5.out.b).evAt i hil
     cases ev9
     have HQ:=Lib.hid q0
     clear hb5 hb5' hon5 k0 k1 k2 k3 k4 q0 q1 q2 q3 q4
     refine wpList_store_mid rfl 119 _ _ rfl B 0 c2 rfl rfl (on_there HBK5.out (by rw [HON.out.size,HON5.out.size])) (onB_info HON5.out.size) HON5.out.one ?_
     refine wpList_nil ?_
     have q0:=HQ.out
     go_wp2
     go_roundw
     case rel => exact ⟨i + 1,by omega,by rw [tickB_next hil],by go_num,HFN,HO5,HI5⟩
     case measure => simp [intOf]; omega
    ·have HEX:=Lib.hid (recE_at HE.out HG.out hil hF.out HRC.out hrc0)
     have hrb : (rc != 0) = true:=by simpa using hrc0
     go_wp2
     go_ret2
     exact recR HEX.out HI4.out.b
   ·have hil2 : ¬ (i : Int) < (l.length : Int):=by omega
    have HEX:=Lib.hid (recE_good HE.out HG.out (fun j hj => hF.out j (by omega)))
    go_wp2
    go_ret2
    exact recR HEX.out hI.out.b
 ·have HEX:=Lib.hid (recE_sp (l:=l) HER.out he)
  have heb : (er != 0) = true:=by simpa using he
  go_wp2
  go_ret2
  exact recR HEX.out HB.out
end Go.Proofs.YthhfmppealmblaaGreatDoor
