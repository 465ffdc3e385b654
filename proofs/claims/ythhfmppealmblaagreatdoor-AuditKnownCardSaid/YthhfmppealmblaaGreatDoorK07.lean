/-
  A part of the proof: AN1, AJ5, AJ6, AK1, AL0, AL1, AL2, AL3, Held, AR3, AH1.
-/
import Derived.Test.YthhfmppealmblaaGreatDoorK01
import Derived.Test.YthhfmppealmblaaGreatDoorK06
import Derived.RangeFuncCalls
import Derived.RangeFuncLeaves
import Derived.Shelf.Abstract
import Derived.Shelf.RegionOpen
import Derived.OwnWalkIn
import Derived.TacticsInMore
import Derived.LoopNIn
import Derived.LoopIn
import Derived.Test.YthhfmppealmblaaGreatDoorN11
import Derived.Test.YthhfmppealmblaaGreatDoorN06
import Derived.Test.YthhfmppealmblaaGreatDoorK02
import Derived.Deep.AppendSrc
import Derived.Deep.RegionHeld3
import Derived.Lib.AppendZeros
import Derived.Test.YthhfmppealmblaaGreatDoorN01
import Derived.Test.YthhfmppealmblaaGreatDoorN13
import Derived.Deep.RegionLaw
namespace Go.Proofs.YthhfmppealmblaaGreatDoor
open Go.RowKit Go.Shelf
theorem momI_yes {l:List Ev} {i:Nat} (h:momB l i=true):momI l (i+1)=momI l i++[i]:=by rw [momI_succ,h];rfl
theorem momI_no {l:List Ev} {i:Nat} (h:momB l i=false):momI l (i+1)=momI l i:=by rw [momI_succ,h];simp
def keptT (t:TypeId):Prop:=t=134∨t=86∨t=28
structure KpM (n0:Nat) (A B:World):Prop where
 be:Below n0 A B
 kept:∀ (k:Nat) (cs:Array Value) (t:TypeId) (fr:Nat × Nat),keptT t→A.heap[k]?=some (Obj.cells cs t fr)→B.heap[k]?=some (Obj.cells cs t fr)
theorem KpM.trans {n0:Nat} {A B C:World} (h:KpM n0 A B) (k:KpM n0 B C):KpM n0 A C:=⟨h.be.trans k.be,fun i cs t fr ht hi=>k.kept i cs t fr ht (h.kept i cs t fr ht hi)⟩
theorem KpM.put {n0:Nat} {A:World} {l:Nat} {o o':Obj} (hl:n0≤l) (h:A.heap[l]?=some o) (ho:ctlB o=true):KpM n0 A (A.putObj l o') :=
 ⟨(Below.refl n0 A).grown (grownBy_putObj' A l o') (by have:=(Array.getElem?_eq_some_iff.1 h).1;omega) (fun k e=>by cases e;exact hl),fun k _ _ _ _ hk=>by
  by_cases e:k=l
  ·subst e
   rw [hk] at h
   cases h
   cases ho
  ·exact (World.putObj_heap_other e).trans hk⟩
theorem KpM.of_below {n0:Nat} {A B:World} (h:Below A.heap.size A B) (hn:n0≤A.heap.size):KpM n0 A B:=⟨h.mono hn,fun k _ _ _ _ hk=>(h.block k (Array.getElem?_eq_some_iff.1 hk).1).trans hk⟩
theorem PlX.blk {f:Th→Int} {t:Int} {PB:Nat} {W:World} {B:Nat} (h:PlX f t PB W B):∃ cs fr,W.heap[B]?=some (Obj.cells cs 134 fr):=by
 obtain ⟨cs,_,hk⟩:=h.ex
 exact ⟨_,_,hk⟩
theorem Boxed.not_pl {W:World} {B:Nat} {t:TypeId} {v:Value} (h:Boxed W B t v) {f:Th→Int} {tk:Int} {PB PL:Nat} (hp:PlX f tk PB W PL) (ht:t≠134):some B≠some PL:=by
 obtain ⟨cs,fr,hk⟩:=hp.blk
 intro e
 cases e
 rw [show W.heap[B]?=_ from h] at hk
 cases hk
 exact ht rfl
theorem PyI.kept {w0:World} {v1 v2 v3 v4:Value} {fp:Nat→Value} {S:Sp} {PB:Nat} {f:Th→Int} {t:Int} {B:Nat} {W W':World} (h:PyI w0 v1 v2 v3 v4 fp S PB f t B W) (hk:KpM w0.heap.size W W'):PyI w0 v1 v2 v3 v4 fp S PB f t B W':=by
 refine ⟨h.sp,h.pb,?_,h.be.trans hk.be,h.new⟩
 obtain ⟨cs,h1,h2⟩:=h.px.ex
 exact ⟨cs,h1,hk.kept _ _ _ _ (.inl rfl) h2⟩
abbrev MoX:=Nat × Nat
def moE (l:List Ev) (x:MoX):Array Value:=#[.int .i64 (l.getD x.1 ev0).1,.pointer (some ⟨x.2,0,none⟩)]
structure MoP (w0:World) (v1 v2 v3 v4:Value) (fp:Nat→Value) (S:Sp) (PB:Nat) (l:List Ev) (pre:List MoX) (x:MoX) (W:World):Prop where
 lt:x.1<l.length
 en:momB l x.1=true
 pr:pre.map (·.1)=momI l x.1
 py:PyI w0 v1 v2 v3 v4 fp S PB (onV (l.take (x.1+1))) (l.getD x.1 ev0).1 x.2 W
set_option maxRecDepth 100000 in
set_option maxHeartbeats 400000 in
theorem moments1_in (n:Nat) (hn:2≤n) (w0:World) (v1 v2 v3 v4:Value) (fp:Nat→Value) (S:Sp) (hc:(checkP S).2=0) (PB:Nat) (l:List Ev) (al:Option Addr) (cl:Nat) (hll:l.length≤20000) (hgood:∀ j,j<l.length→recF S l j=0) (hsp:SpRd w0 v1 v2 v3 v4 fp S) (hpb:Blk w0 PB 27 #[v1,v2,v3,v4]) (hlv:ARd w0 (.slice al l.length cl) 5 (l.map evC))
  (Bs Bl:Nat) (ly:Nat) (J:List MoX→World→Prop) (W:World) (hb:Below w0.heap.size w0 W) (hbs:Boxed W Bs 86 (.pointer (some ⟨PB,0,none⟩))) (hbl:Boxed W Bl 28 (.slice al l.length cl)) (hJ:LastsC 134 W.heap.size J)
  (hY:∀ pre x W1,J pre W1→MoP w0 v1 v2 v3 v4 fp S PB l pre x W1→YieldAt Fence.wide (n-1) Tryz.prog ly (moE l x) W1 fun e W'=>e = .returned (.bool true)∧J (pre++[x]) W'∧KpM w0.heap.size W1 W') (h0:J [] W) :
  CallsIn Fence.wide n Tryz.prog 89 #[.func (.yield ly) #[] #[],.pointer (some ⟨Bs,0,none⟩),.pointer (some ⟨Bl,0,none⟩)] W fun e W'=>(∃ v,e = .returned v)∧∃ xs:List MoX,xs.map (·.1)=momI l l.length∧J xs W':=by
 refine callsIn_of_wp Tryz.func89 rfl trivial ?_ rfl
 simp only [Tryz.ntmps89,List.size_toArray,List.length_cons,List.length_nil,Nat.reduceAdd,Nat.reduceSub,Array.replicate_succ,Array.replicate_zero,List.push_toArray,List.append_toArray,List.nil_append,List.cons_append]
 have bs:=hbs.cell
 have bl:=hbl.cell
 have HPX:=Lib.hid (PlX.start0 W PB)
 have HBS:=Lib.hid (hbs.alloc (.cells (Tryz.zeroCells134.setIfInBounds 0 (.pointer (some ⟨PB,0,none⟩))) 134))
 have HBL:=Lib.hid (hbl.alloc (.cells (Tryz.zeroCells134.setIfInBounds 0 (.pointer (some ⟨PB,0,none⟩))) 134))
 have HBE:=Lib.hid (below_step hb ((Below.refl _ W).alloc (Nat.le_refl W.heap.size) (.cells (Tryz.zeroCells134.setIfInBounds 0 (.pointer (some ⟨PB,0,none⟩))) 134)))
 have bl2:=HBL.out.cell
 have HJ1:=Lib.hid (hJ [] W _ none h0 (World.grownBy_alloc W (.cells (Tryz.zeroCells134.setIfInBounds 0 (.pointer (some ⟨PB,0,none⟩))) 134) none) (fun r e=>by cases e))
 have HJ:=Lib.hid hJ
 have HY:=Lib.hid hY
 have HLV:=Lib.hid hlv
 have HG:=Lib.hid hgood
 have HSP:=Lib.hid hsp
 have HPB:=Lib.hid hpb
 have HSZ:=Lib.hid hb.size
 clear hbs hbl h0 hJ hY hlv hgood hsp hpb hb
 gi_wp2
 obtain ⟨PL,hPL⟩:∃ PL,W.heap.size=PL:=⟨_,rfl⟩
 rw [hPL] at HPX HJ HSZ
 have HI0:=Lib.hid (show PyI w0 v1 v2 v3 v4 fp S PB (onV (l.take 0)) (tickB l 0) PL (W.alloc (.cells (Tryz.zeroCells134.setIfInBounds 0 (.pointer (some ⟨PB,0,none⟩))) 134)) from ⟨HSP.out,HPB.out,HPX.out,HBE.out,HSZ.out⟩)
 have HM0:Hid (([]:List MoX).map (·.1)=momI l 0):=Lib.hid rfl
 clear HPX HBE bl2
 try rw [hPL]
 generalize Tryz.zeroCells134.setIfInBounds 0 (.pointer (some ⟨PB,0,none⟩))=ZZ at *
 gi_loopw [11] (fun x wr=>∃ (i:Nat) (pre:List MoX),i≤l.length∧x = .int .i64 i∧RowKit.Hid (pre.map (·.1)=momI l i)∧RowKit.Hid (PyI w0 v1 v2 v3 v4 fp S PB (onV (l.take i)) (tickB l i) PL wr)∧RowKit.Hid (Boxed wr Bs 86 (.pointer (some ⟨PB,0,none⟩)))∧RowKit.Hid (Boxed wr Bl 28 (.slice al l.length cl))∧RowKit.Hid (J pre wr)) (fun x _=>l.length-(intOf x).toNat)
 case atStart=>exact ⟨0,[],Nat.zero_le _,rfl,HM0,HI0,HBS,HBL,HJ1⟩
 case round =>
  clear HI0 HM0 HBS HBL HJ1
  obtain ⟨i,pre,hi,rfl,hM,hI,hS,hL,hJs⟩:=hrel
  by_cases hil:i<l.length
  ·have hi2:(i:Int)<(l.length:Int):=by omega
   obtain ⟨be,oe,c',ev,hec⟩:=HLV.out.evC' i hil
   cases ev
   have HEC:=Lib.hid hec
   have hbin:=bin_upto hc (by omega:i≤l.length) (fun j hj=>HG.out j (by omega))
   have h0e:evR S (tickB l i) (onV (l.take i)) l[i]=0:=by rw [← recF_evR hil];exact HG.out i hil
   have bl:=hL.out.cell
   have HON:=Lib.hid (onV_take hil)
   have HTB:=Lib.hid (tickB_next hil)
   have HPY:=Lib.hid (play_any w0 v1 v2 v3 v4 S hc fp PB PL be (oe+i * 5) _ hbin _ l[i] wr hI.out hec)
   clear hbin hec
   gi_wp2_with fail
   refine ⟨trivial,(fun _=>by omega),?_⟩
   refine (callsIn_wide.2 HPY.out).mono ?_
   rintro e w4 (⟨h0,rfl,hpy,hg⟩ | ⟨h0,rfl,hb4,hg⟩)
   case inr=>exact absurd h0e h0
   have HS4:=Lib.hid (hS.out.kept hg (Boxed.not_pl hS.out hI.out.px (by decide)))
   have HL4:=Lib.hid (hL.out.kept hg (Boxed.not_pl hL.out hI.out.px (by decide)))
   have HJ4:=Lib.hid (HJ.out pre wr w4 (some PL) hJs.out hg (fun r e=>by cases e;exact ⟨Nat.le_refl _,hI.out.px.blk⟩))
   have HPY4:=Lib.hid (show PyI w0 v1 v2 v3 v4 fp S PB (onV (l.take (i+1))) (tickB l (i+1)) PL w4 from by rw [HON.out,HTB.out];exact hpy)
   have hbl4:=HL4.out.cell
   have hx0:=(HEC.out.later hpy.be).c0
   have HSD:=Lib.hid (show Boxed w4.drew Bs 86 (.pointer (some ⟨PB,0,none⟩)) from HS4.out)
   have HLD:=Lib.hid (show Boxed w4.drew Bl 28 (.slice (some ⟨be,oe,none⟩) l.length cl) from HL4.out)
   have HJD:=Lib.hid (HJ.out pre w4 w4.drew none HJ4.out (drewN_grown w4 1 none) (fun r e=>by cases e))
   have HPD:=Lib.hid (show PyI w0 v1 v2 v3 v4 fp S PB (onV (l.take (i+1))) (tickB l (i+1)) PL w4.drew from HPY4.out.drewN 1)
   clear h0 h0e hpy hg hI hS hL hJs HPY bl HS4 HL4 HJ4 HPY4
   have hgx:(l.getD i ev0).1=l[i].1:=by rw [getD_at hil]
   have hwr:IntKind.i64.wrap ((i:Int)+1)=(i:Int)+1:=IntWalk.i64_in _ (by omega)
   have hmx:Tryz.prog.follows .mixedOrders=true:=by kernel_rfl
   by_cases hlast:i+1=l.length
   ·have q1:((i:Int)+1==(l.length:Int))=true:=by simp;omega
    have hen:momB l i=true:=momB_last hlast
    have HMN:=Lib.hid (momI_yes hen)
    obtain ⟨fn,tmps,assign,body,hy,hR⟩:=HY.out pre (i,PL) w4.drew HJD.out ⟨hil,hen,hM.out,by dsimp only;rw [hgx,← HTB.out];exact HPD.out⟩
    dsimp only [moE] at hy
    rw [hgx] at hy
    obtain ⟨tx,htx⟩:∃ tx,l[i].1=tx:=⟨_,rfl⟩
    rw [htx] at hx0 hy
    clear hgx hen htx
    have HLAST:=Lib.hid hlast
    clear hlast
    gi_wp2_with fail
    refine wpIn_region_quiet_tail 27 hmx (by kernel_rfl) ?_
    simp only [List.take_succ_cons,List.take_zero,List.drop_succ_cons,List.drop_zero]
    repeat (go_big_quiet_step (fail))
    refine wpQuiet_nil ?_
    generalize w4.drew=w5 at *
    gi_wp2_with fail
    refine ⟨fun _=>by omega,hR.mono ?_⟩
    rintro e W6 ⟨rfl,hJ6,hk6⟩
    have HI6:=Lib.hid (HPD.out.kept hk6)
    have HS6:=Lib.hid (show Boxed W6 Bs 86 (.pointer (some ⟨PB,0,none⟩)) from hk6.kept _ _ _ _ (.inr (.inl rfl)) HSD.out)
    have HL6:=Lib.hid (show Boxed W6 Bl 28 (.slice (some ⟨be,oe,none⟩) l.length cl) from hk6.kept _ _ _ _ (.inr (.inr rfl)) HLD.out)
    have HJ6:=Lib.hid hJ6
    have HM6:=Lib.hid (show (pre++[(i,PL)]).map (·.1)=momI l (i+1) by rw [List.map_append,hM.out,HMN.out];rfl)
    clear hJ6 hk6 HPD HSD HLD HJD hR hy hM
    gi_wp2
    go_roundw
    case rel=>exact ⟨i+1,pre++[(i,PL)],by omega,by go_num,HM6,HI6,HS6,HL6,HJ6⟩
    case measure=>simp [intOf];omega
   have hi4:i+1<l.length:=by omega
   have q1:((i:Int)+1==(l.length:Int))=false:=by simp;omega
   have q2:(i:Int)+1<(l.length:Int):=by omega
   have q3:(0:Int)≤(i:Int)+1:=by omega
   have q4:((i:Int)+1).toNat=i+1:=by omega
   obtain ⟨be',oe',c9,ev,hec2⟩:=HLV.out.evC' (i+1) hi4
   cases ev
   have hx1:=(hec2.later HPD.out.be).c0
   have hmb:=momB_is hi4
   clear hec2 hlast
   by_cases hlt:l[i].1<l[i+1].1
   ·have hen:momB l i=true:=by rw [hmb,decide_eq_true hlt]
    have HMN:=Lib.hid (momI_yes hen)
    obtain ⟨fn,tmps,assign,body,hy,hR⟩:=HY.out pre (i,PL) w4.drew HJD.out ⟨hil,hen,hM.out,by dsimp only;rw [hgx,← HTB.out];exact HPD.out⟩
    dsimp only [moE] at hy
    rw [hgx] at hy
    obtain ⟨tx,htx⟩:∃ tx,l[i].1=tx:=⟨_,rfl⟩
    obtain ⟨ty,hty⟩:∃ ty,l[i+1].1=ty:=⟨_,rfl⟩
    rw [htx] at hx0 hy hlt
    rw [hty] at hx1 hlt
    clear hgx hen htx hty hmb
    gi_wp2_with fail
    refine wpIn_region_quiet_tail 27 hmx (by kernel_rfl) ?_
    simp only [List.take_succ_cons,List.take_zero,List.drop_succ_cons,List.drop_zero]
    repeat (go_big_quiet_step (fail))
    refine wpQuiet_nil ?_
    generalize w4.drew=w5 at *
    gi_wp2_with fail
    refine ⟨fun _=>by omega,hR.mono ?_⟩
    rintro e W6 ⟨rfl,hJ6,hk6⟩
    have HI6:=Lib.hid (HPD.out.kept hk6)
    have HS6:=Lib.hid (show Boxed W6 Bs 86 (.pointer (some ⟨PB,0,none⟩)) from hk6.kept _ _ _ _ (.inr (.inl rfl)) HSD.out)
    have HL6:=Lib.hid (show Boxed W6 Bl 28 (.slice (some ⟨be,oe,none⟩) l.length cl) from hk6.kept _ _ _ _ (.inr (.inr rfl)) HLD.out)
    have HJ6:=Lib.hid hJ6
    have HM6:=Lib.hid (show (pre++[(i,PL)]).map (·.1)=momI l (i+1) by rw [List.map_append,hM.out,HMN.out];rfl)
    clear hJ6 hk6 HPD HSD HLD HJD hR hy hM
    gi_wp2
    go_roundw
    case rel=>exact ⟨i+1,pre++[(i,PL)],by omega,by go_num,HM6,HI6,HS6,HL6,HJ6⟩
    case measure=>simp [intOf];omega
   ·have hen:momB l i=false:=by rw [hmb,decide_eq_false hlt]
    have HM6:=Lib.hid (show pre.map (·.1)=momI l (i+1) by rw [momI_no hen];exact hM.out)
    obtain ⟨tx,htx⟩:∃ tx,l[i].1=tx:=⟨_,rfl⟩
    obtain ⟨ty,hty⟩:∃ ty,l[i+1].1=ty:=⟨_,rfl⟩
    rw [htx] at hx0 hlt
    rw [hty] at hx1 hlt
    have hlt2:decide (tx<ty)=false:=decide_eq_false hlt
    clear hgx hen htx hty hmb hM hlt
    gi_wp2_with fail
    refine wpIn_region_quiet_tail 27 hmx (by kernel_rfl) ?_
    simp only [List.take_succ_cons,List.take_zero,List.drop_succ_cons,List.drop_zero]
    repeat (go_big_quiet_step (fail))
    refine wpQuiet_nil ?_
    generalize w4.drew=w5 at *
    gi_wp2_with fail
    refine ⟨fun f h=>(by cases h),?_⟩
    gi_wp2
    go_roundw
    case rel=>exact ⟨i+1,pre,by omega,by go_num,HM6,HPD,HSD,HLD,HJD⟩
    case measure=>simp [intOf];omega
  ·have hi2:¬ ((i:Int)<(l.length:Int)):=by omega
   have hie:i=l.length:=by omega
   rw [hie] at hM
   clear hie
   gi_wp2
   go_end0
   exact ⟨⟨_,rfl⟩,pre,hM.out,hJs.out⟩
end Go.Proofs.YthhfmppealmblaaGreatDoor
namespace Go.Proofs.YthhfmppealmblaaGreatDoor
open Go.RowKit
end Go.Proofs.YthhfmppealmblaaGreatDoor
namespace Go.Proofs.YthhfmppealmblaaGreatDoor
open Go.RowKit
theorem setTo_set {o:List Fa} (h:o.length-1<o.length) (t:Int):setTo o t=o.set (o.length-1) (o[o.length-1].1,o[o.length-1].2.1,o[o.length-1].2.2.1,t):=by
 rcases List.eq_nil_or_concat o with rfl | ⟨l,x,e⟩
 ·exact absurd h (by simp)
 ·rw [List.concat_eq_append] at e
  subst e
  rw [setTo_snoc]
  simp
theorem setTo_len (o:List Fa) (t:Int):(setTo o t).length=o.length:=by
 rcases List.eq_nil_or_concat o with rfl | ⟨l,x,e⟩
 ·rfl
 ·rw [List.concat_eq_append] at e
  subst e
  rw [setTo_snoc]
  simp
end Go.Proofs.YthhfmppealmblaaGreatDoor
namespace Go.Proofs.YthhfmppealmblaaGreatDoor
open Go.RowKit
theorem EnB.setk {α:Type} {W:World} {t:TypeId} {k g cap:Nat} {enc:α→List Value} {m:List α} (hk:∀ x,(enc x).length=k) (h:EnB W t k enc g cap m) {i:Nat} (hi:i<m.length) {j:Nat} (hj:j<k) {v:Value} {y:α} (hy:enc y=(enc m[i]).set j v):EnB (W.setCell ⟨g,i * k+j,none⟩ v) t k enc g cap (m.set i y):=by
 obtain ⟨⟨cur,hb,hz,hx⟩,hn⟩:=h
 have hik:i * k+k≤m.length * k:=by
  have:(i+1) * k≤m.length * k:=Nat.mul_le_mul_right _ hi
  rw [Nat.add_mul,Nat.one_mul] at this
  exact this
 have hmc:m.length * k≤cap * k:=Nat.mul_le_mul_right _ hn
 refine ⟨⟨_,hb.set (i * k+j) v,by simpa using hz,?_⟩,by simpa using hn⟩
 rw [List.length_set]
 refine flat_set hk m i y _ hi ?_ ?_
 ·rw [List.length_take,Array.length_toList];simp;omega
 ·intro q hq2
  have hcur:cur[q]?=((m.map enc).flatten)[q]?:=by rw [← hx,List.getElem?_take,if_pos hq2,Array.getElem?_toList]
  have hcs:i * k+j<cur.size:=by omega
  rw [List.getElem?_take,if_pos hq2,Array.getElem?_toList,Array.getElem?_setIfInBounds]
  by_cases c:i * k≤q∧q<i * k+k
  ·rw [if_pos c,hy,List.getElem?_set]
   by_cases e1:i * k+j=q
   ·rw [if_pos e1,if_pos hcs,if_pos (by omega),if_pos (by rw [hk];omega)]
   ·rw [if_neg e1,if_neg (by omega),hcur]
    have e2:=flat_get (m.map enc) (by intro r hr;obtain ⟨p,_,rfl⟩:=List.mem_map.1 hr;exact hk p) i (by simpa using hi) (q-i * k) (by omega)
    rw [List.getElem_map,show i * k+(q-i * k)=q by omega] at e2
    exact e2
  ·rw [if_neg c,if_neg (by omega),hcur]
def faC (x:Fa):List Value:=[.int .i64 x.1,.int .i64 x.2.1.1,.int .i64 x.2.1.2,.int .i64 x.2.2.1,.int .i64 x.2.2.2]
theorem faC_len (x:Fa):(faC x).length=5:=rfl
def faCs (l:List Fa):List Value:=(l.map faC).flatten
theorem fa_info:(Tryz.prog.info? 52).map (fun i=>(i.zero,i.size,i.bytes))=some (some (.agg #[.int .i64 0,.int .i64 0,.int .i64 0,.int .i64 0,.int .i64 0]),5,40):=by kernel_rfl
theorem fas_step {W:World} {base:Nat} {t:TypeId} {v:Value} {l:List Fa} {n:Nat} {k:Int} {p:Pp} {a b:Int} (h:W.ownsRow base t 5 v n (faCs l++[.int .i64 k,.int .i64 p.1,.int .i64 p.2,.int .i64 a,.int .i64 b])) (hn:n=l.length+1):W.ownsRow base t 5 v (l++[(k,p,a,b)]).length (faCs (l++[(k,p,a,b)])):=by
 have e:faCs (l++[(k,p,a,b)])=faCs l++[.int .i64 k,.int .i64 p.1,.int .i64 p.2,.int .i64 a,.int .i64 b]:=by simp [faCs,faC]
 rw [e,List.length_append,List.length_singleton,← hn]
 exact h
theorem ARd.of_fas {W:World} {base:Nat} {t:TypeId} {v:Value} {l:List Fa} (h:W.ownsRow base t 5 v l.length (faCs l)):ARd W v 5 (l.map faC) :=
 ARd.of_row (by intro r hr;obtain ⟨p,_,rfl⟩:=List.mem_map.1 hr;rfl) (by rw [List.length_map];exact h)
structure FoB (W0:World) (g cap:Nat) (m:List Fa) (W:World):Prop where
 row:EnB W 52 5 faC g cap m
 g0:W0.heap.size≤g
 b:Below W0.heap.size W0 W
theorem FoB.at {W0 W:World} {g cap:Nat} {m:List Fa} (h:FoB W0 g cap m W) {k:Nat} (hk:k<m.length) :
  (W.cell? ⟨g,k * 5,none⟩=some (.int .i64 m[k].1)∧W.cell? ⟨g,k * 5+1,none⟩=some (.int .i64 m[k].2.1.1)∧W.cell? ⟨g,k * 5+2,none⟩=some (.int .i64 m[k].2.1.2)∧W.cell? ⟨g,k * 5+3,none⟩=some (.int .i64 m[k].2.2.1)∧W.cell? ⟨g,k * 5+4,none⟩=some (.int .i64 m[k].2.2.2)) ∧
  (W.frozen? ⟨g,k * 5,none⟩=false∧W.frozen? ⟨g,k * 5+1,none⟩=false∧W.frozen? ⟨g,k * 5+2,none⟩=false∧W.frozen? ⟨g,k * 5+3,none⟩=false∧W.frozen? ⟨g,k * 5+4,none⟩=false):=by
 have c0:=h.row.cell faC_len hk (j:=0) rfl
 have c1:=h.row.cell faC_len hk (j:=1) rfl
 have c2:=h.row.cell faC_len hk (j:=2) rfl
 have c3:=h.row.cell faC_len hk (j:=3) rfl
 have c4:=h.row.cell faC_len hk (j:=4) rfl
 exact ⟨⟨c0.1,c1.1,c2.1,c3.1,c4.1⟩,⟨c0.2,c1.2,c2.2,c3.2,c4.2⟩⟩
theorem FoB.setTo {W0 W:World} {g cap:Nat} {m:List Fa} (h:FoB W0 g cap m W) (h0:m≠[]) (t:Int):FoB W0 g cap (setTo m t) (W.setCell ⟨g,(m.length-1) * 5+4,none⟩ (.int .i64 t)):=by
 have hk:m.length-1<m.length:=by have:=List.length_pos_iff.2 h0;omega
 rw [setTo_set hk]
 obtain ⟨x,hx⟩:∃ x,m[m.length-1]=x:=⟨_,rfl⟩
 refine ⟨?_,h.g0,h.b.grown (set_grown W g _ _) h.b.size (fun j e=>by cases e;exact h.g0)⟩
 exact h.row.setk faC_len hk (j:=4) (by omega) (v:=.int .i64 t) (by rw [hx];rfl)
theorem FoB.owns {W0 W:World} {g cap:Nat} {m:List Fa} (h:FoB W0 g cap m W) (hc:cap≤maxLen):W.ownsRow W0.heap.size 52 5 (.slice (some ⟨g,0,none⟩) m.length cap) m.length (faCs m):=h.row.row faC_len h.g0 hc
theorem FoB.of {W0 W:World} {v:Value} {m:List Fa} (h:W.ownsRow W0.heap.size 52 5 v m.length (faCs m)) (hb:Below W0.heap.size W0 W) (h0:m≠[]):∃ g cap,v = .slice (some ⟨g,0,none⟩) m.length cap∧cap≤maxLen∧FoB W0 g cap m W:=by
 rcases h.2 with ⟨rfl,e⟩ | ⟨g,cap,cur,rfl,_⟩
 ·exact absurd (List.length_eq_zero_iff.1 e) h0
 ·obtain ⟨h1,h2,h3,_⟩:=EnB.of_row (enc:=faC) (m:=m) h
  exact ⟨g,cap,rfl,h3,h1,h2,hb⟩
end Go.Proofs.YthhfmppealmblaaGreatDoor
namespace Go.Proofs.YthhfmppealmblaaGreatDoor
open Go.RowKit
structure AcA (S:Sp) (f:Th→Int) (d k:Nat) (m q:List Pl):Prop where
 i:AcI S f m q
 key:∀ d' k':Nat,(d'<d∨d'=d∧k'<k)→d'<S.ds.length→f (1,(d':Int),(k':Int))=1→((d':Int),(k':Int))∈m
theorem AcA.start (S:Sp) (f:Th→Int):AcA S f 0 0 [] []:=⟨AcI.nil S f,fun _ _ h=>by omega⟩
theorem AcA.skip {S:Sp} {f:Th→Int} {d k:Nat} {m q:List Pl} (h:AcA S f d k m q) (hn:f (1,(d:Int),(k:Int))≠1):AcA S f d (k+1) m q :=
 ⟨h.i,fun d' k' hl hd he=>by
  by_cases e:d'=d∧k'=k
  ·obtain ⟨rfl,rfl⟩:=e;exact absurd he hn
  ·exact h.key d' k' (by omega) hd he⟩
theorem AcA.add {S:Sp} {f:Th→Int} (hf:OnOk S f) {d k:Nat} {m q:List Pl} (h:AcA S f d k m q) (hd:d<S.ds.length) (hk:k<128) (hy:f (1,(d:Int),(k:Int))=1):AcA S f d (k+1) (addM S m ((d:Int),(k:Int))) (addQ S m q ((d:Int),(k:Int))):=by
 have hok:=(hf.key d k (by omega)).1
 have hac:Acts S f ((d:Int),(k:Int)):=.key _ _ ⟨by omega,by omega⟩ (mem_playedL.2 ⟨by omega,by omega,hy⟩)
 refine ⟨h.i.add fun _=>hac,fun d' k' hl hd' he=>?_⟩
 by_cases e:d'=d∧k'=k
 ·obtain ⟨rfl,rfl⟩:=e;exact mem_addM.2 (.inr ⟨rfl,hok⟩)
 ·exact mem_addM.2 (.inl (h.key d' k' (by omega) hd' he))
theorem AcA.row {S:Sp} {f:Th→Int} (hf:OnOk S f) {d:Nat} {m q:List Pl} (h:AcA S f d 128 m q):AcA S f (d+1) 0 m q :=
 ⟨h.i,fun d' k' hl hd he=>h.key d' k' (by have:=(hf.key d' k' (by omega)).2;omega) hd he⟩
structure AcB (S:Sp) (f:Th→Int) (i j:Nat) (m q:List Pl):Prop where
 ai:AcI S f m q
 key:∀ d k,0≤d∧d<(S.ds.length:Int)→k∈playedL f d→(d,k)∈m
 cou:∀ i' (hi:i'<S.cs.length),i'<i→f (3,0,(i':Int))=1→∀ k∈takes S.cs[i'].only (playedL f S.cs[i'].frm),keyOk S (S.cs[i'].to,k+S.cs[i'].shift)=true→(S.cs[i'].to,k+S.cs[i'].shift)∈m
 now:∀ (hi:i<S.cs.length),∀ k∈(takes S.cs[i].only (playedL f S.cs[i].frm)).take j,keyOk S (S.cs[i].to,k+S.cs[i].shift)=true→(S.cs[i].to,k+S.cs[i].shift)∈m
theorem AcB.of {S:Sp} {f:Th→Int} {m q:List Pl} (h:AcA S f S.ds.length 0 m q):AcB S f 0 0 m q :=
 ⟨h.i,fun d k hd hk=>by
  obtain ⟨h0,h1,h2⟩:=mem_playedL.1 hk
  obtain ⟨d,rfl⟩:=Int.eq_ofNat_of_zero_le hd.1
  obtain ⟨k,rfl⟩:=Int.eq_ofNat_of_zero_le h0
  exact h.key d k (.inl (by omega)) (by omega) h2,fun _ _ h=>absurd h (Nat.not_lt_zero _),fun _ k hk=>by rw [List.take_zero] at hk;cases hk⟩
theorem AcB.off {S:Sp} {f:Th→Int} {i:Nat} {m q:List Pl} (h:AcB S f i 0 m q) (hi:i<S.cs.length) (hn:f (3,0,(i:Int))≠1∨playedL f S.cs[i].frm=[]):AcB S f (i+1) 0 m q :=
 ⟨h.ai,h.key,fun i' hi' hlt hon k hk ok=>by
  by_cases e:i'=i
  ·subst e
   rcases hn with hn | hn
   ·exact absurd hon hn
   ·rw [hn] at hk
    unfold takes at hk
    split at hk
    ·cases hk
    ·split at hk <;> cases hk
  ·exact h.cou i' hi' (by omega) hon k hk ok,fun _ k hk=>by rw [List.take_zero] at hk;cases hk⟩
theorem AcB.add {S:Sp} {f:Th→Int} {i j:Nat} {m q:List Pl} (h:AcB S f i j m q) (hi:i<S.cs.length) (hon:f (3,0,(i:Int))=1) (hj:j<(takes S.cs[i].only (playedL f S.cs[i].frm)).length) {x:Pl} (hx:x=(S.cs[i].to,(takes S.cs[i].only (playedL f S.cs[i].frm))[j]+S.cs[i].shift)):AcB S f i (j+1) (addM S m x) (addQ S m q x):=by
 subst hx
 refine ⟨h.ai.add fun ok => .cou i hi hon _ (List.getElem_mem hj) ok,fun d k hd hk=>mem_addM.2 (.inl (h.key d k hd hk)),fun i' hi' hlt ho k hk ok=>mem_addM.2 (.inl (h.cou i' hi' hlt ho k hk ok)),fun _ k hk ok=>?_⟩
 rw [List.take_succ_eq_append_getElem hj,List.mem_append,List.mem_singleton] at hk
 rcases hk with hk | rfl
 ·exact mem_addM.2 (.inl (h.now hi k hk ok))
 ·exact mem_addM.2 (.inr ⟨rfl,ok⟩)
theorem AcB.end {S:Sp} {f:Th→Int} {i j:Nat} {m q:List Pl} (h:AcB S f i j m q) (hj:∀ hi:i<S.cs.length,(takes S.cs[i].only (playedL f S.cs[i].frm)).length≤j):AcB S f (i+1) 0 m q :=
 ⟨h.ai,h.key,fun i' hi' hlt hon k hk ok=>by
  by_cases e:i'=i
  ·subst e
   exact h.now hi' k (by rw [List.take_of_length_le (hj hi')];exact hk) ok
  ·exact h.cou i' hi' (by omega) hon k hk ok,fun _ k hk=>by rw [List.take_zero] at hk;cases hk⟩
theorem AcB.all {S:Sp} {f:Th→Int} {m q:List Pl} (h:AcB S f S.cs.length 0 m q):AcI S f m q∧AcH S f m:=⟨h.ai,h.key,fun i hi hon k hk ok=>h.cou i hi hi hon k hk ok⟩
theorem AcH.addM {S:Sp} {f:Th→Int} {m:List Pl} (h:AcH S f m) (x:Pl):AcH S f (Go.Proofs.YthhfmppealmblaaGreatDoor.addM S m x):=⟨fun d k hd hk=>mem_addM.2 (.inl (h.key d k hd hk)),fun i hi hon k hk ok=>mem_addM.2 (.inl (h.cou i hi hon k hk ok))⟩
end Go.Proofs.YthhfmppealmblaaGreatDoor
namespace Go.Proofs.YthhfmppealmblaaGreatDoor
open Go.RowKit
def plV (x:Pl):List Value:=[.int .i64 x.1,.int .i64 x.2]
def plCs (l:List Pl):List Value:=(l.map plV).flatten
theorem plCs_len (l:List Pl):(plCs l).length=l.length * 2:=by
 have:=flat_len (k:=2) (l.map plV) (by intro r hr;obtain ⟨p,_,rfl⟩:=List.mem_map.1 hr;rfl)
 rwa [List.length_map] at this
theorem plCs_snoc (l:List Pl) (x:Pl):plCs (l++[x])=plCs l++[.int .i64 x.1,.int .i64 x.2]:=by simp [plCs,plV]
theorem plCs_cons (l:List Pl) (x:Pl):plCs (x :: l)=[.int .i64 x.1,.int .i64 x.2]++plCs l:=by simp [plCs,plV]
theorem pla_info:(Tryz.prog.info? 181).map (fun i=>(i.zero,i.size,i.bytes))=some (some (.agg #[.int .i64 0,.int .i64 0]),2,16):=by kernel_rfl
def QuI (W:World) (base:Nat) (v:Value) (q:List Pl):Prop:=(v = .slice none 0 0∧q=[])∨∃ g o cap cs,v = .slice (some ⟨g,o,none⟩) q.length cap∧Blk W g 181 cs∧base≤g∧q.length≤cap∧cap≤maxLen∧o+cap * 2≤cs.size∧∀ j u,(plCs q)[j]?=some u→cs[o+j]?=some u
theorem QuI.nil (W:World) (base:Nat):QuI W base (.slice none 0 0) []:=.inl ⟨rfl,rfl⟩
theorem QuI.kept {W W':World} {base:Nat} {v:Value} {q:List Pl} {row:Option Nat} (h:QuI W base v q) (hg:W.grownBy W' row) (hne:v.ownBlock=none∨v.ownBlock≠row):QuI W' base v q:=by
 rcases h with h | ⟨g,o,cap,cs,rfl,h1,h2⟩
 ·exact .inl h
 ·refine .inr ⟨g,o,cap,cs,rfl,h1.grown hg (fun e=>?_),h2⟩
  rcases hne with hne | hne
  ·cases hne
  ·exact hne e.symm
theorem QuI.below {W W':World} {base:Nat} {v:Value} {q:List Pl} (h:QuI W base v q) (hb:Below W.heap.size W W'):QuI W' base v q:=by
 rcases h with h | ⟨g,o,cap,cs,rfl,h1,h2⟩
 ·exact .inl h
 ·exact .inr ⟨g,o,cap,cs,rfl,h1.below hb,h2⟩
theorem QuI.form {W:World} {base:Nat} {v:Value} {q:List Pl} (h:QuI W base v q):∃ a c,v = .slice a q.length c:=by
 rcases h with ⟨rfl,rfl⟩ | ⟨g,o,cap,cs,rfl,_⟩
 ·exact ⟨_,_,rfl⟩
 ·exact ⟨_,_,rfl⟩
theorem QuI.tail {W:World} {base:Nat} {v:Value} {q:List Pl} {x:Pl} (h:QuI W base v (x :: q)):∃ g o cap,v = .slice (some ⟨g,o,none⟩) (q.length+1) (cap+1)∧W.cell? ⟨g,o,none⟩=some (.int .i64 x.1)∧W.cell? ⟨g,o+1,none⟩=some (.int .i64 x.2)∧q.length≤cap∧QuI W base (.slice (some ⟨g,o+2,none⟩) q.length cap) q:=by
 rcases h with ⟨_,h⟩ | ⟨g,o,cap,cs,rfl,h1,h2,h3,h4,h5,h6⟩
 ·cases h
 ·rw [List.length_cons] at h3
  obtain ⟨c,rfl⟩:∃ c,cap=c+1:=⟨cap-1,by omega⟩
  rw [plCs_cons] at h6
  refine ⟨g,o,c,rfl,?_,?_,by omega,.inr ⟨g,o+2,c,cs,rfl,h1,h2,by omega,by omega,by omega,fun j u hj=>?_⟩⟩
  ·rw [h1.cell];exact h6 0 _ rfl
  ·rw [h1.cell];exact h6 1 _ rfl
  ·have:=h6 (2+j) u (by rw [List.getElem?_append_right (by simp)];simpa using hj)
   rwa [← Nat.add_assoc] at this
theorem QuI.push {W:World} {base:Nat} {v:Value} {q:List Pl} (h:QuI W base v q) (hb:base≤W.heap.size) (hq:q.length≤1000000) (x:Pl) (ad:Addr) (c:Nat) (hn:∀ j u,[Value.int .i64 x.1,.int .i64 x.2][j]?=some u→W.cell? (ad.add j)=some u) :
  ∃ v' w',(Builtin.append_ #[230,230] 230 #[v,.slice (some ad) 1 c]).run Tryz.prog W = .ok v' w'∧QuI w' base v' (q++[x])∧W.grownBy w' v.ownBlock∧(v'.ownBlock=v.ownBlock∨v'.ownBlock=some W.heap.size):=by
 obtain ⟨i0,hi,hz0,hz1,hz2⟩:=info_parts pla_info
 have hs:Src Tryz.prog i0.size 230 (.slice (some ad) 1 c) 1 [.int .i64 x.1,.int .i64 x.2] W:=by
  rw [hz1]
  exact Src.ofSlice W (e':=181) Tryz.underlying230 ad 1 c _ rfl hn (by intro u hu;simp only [List.mem_cons,List.not_mem_nil,or_false] at hu;rcases hu with rfl | rfl <;> rfl)
 have grow:∀ (bs:Option Addr) (len sc:Nat) (olds:List Value),len=q.length→olds=plCs q→sc<len+1→(Builtin.firstCells i0.size len (.slice bs len sc)).run Tryz.prog W.drew = .ok olds.toArray W.drew →
   ∃ v' w',(Builtin.append_ #[230,230] 230 #[.slice bs len sc,.slice (some ad) 1 c]).run Tryz.prog W = .ok v' w'∧QuI w' base v' (q++[x])∧W.grownBy w' (Value.slice bs len sc).ownBlock∧(v'.ownBlock=(Value.slice bs len sc).ownBlock∨v'.ownBlock=some W.heap.size):=by
  rintro bs len sc olds rfl rfl hg hold
  have hrun:=run_append_grow_src (P:=Tryz.prog) W 230 230 230 181 i0 _ Tryz.underlying230 hi hz0 bs q.length sc (plCs q) hold _ 1 _ hs hg (by omega) (growslice_fits hg (by rw [hz2];omega))
  have hge:=grownCap_ge W (q.length+1) sc 181
  have hcm:=grownCap_le_maxLen W (q.length+1) sc 181 (by unfold maxLen;omega)
  have hL:(plCs q++[Value.int .i64 x.1,.int .i64 x.2]).length=(q.length+1) * 2:=by rw [List.length_append,plCs_len];simp only [List.length_cons,List.length_nil];omega
  refine ⟨_,_,hrun,.inr ⟨W.heap.size,0,_,_,by rw [List.length_append,List.length_singleton],Blk.new W.drew _ _,hb,by rw [List.length_append,List.length_singleton];exact hge,hcm,?_,fun j u hj=>?_⟩,?_,.inr rfl⟩
  ·rw [Array.size_append,List.size_toArray,hL,size_zeroCells]
   simp only [Value.cells,List.size_toArray,List.length_cons,List.length_nil]
   omega
  ·rw [plCs_snoc] at hj
   have hlt:=(List.getElem?_eq_some_iff.1 hj).1
   rw [Nat.zero_add,Array.getElem?_append_left (by rw [List.size_toArray];exact hlt),List.getElem?_toArray]
   exact hj
  ·have hbel:Below W.heap.size W (W.drew.alloc (.cells ((plCs q++[Value.int .i64 x.1,.int .i64 x.2]).toArray++Builtin.zeroCells (Value.agg #[.int .i64 0,.int .i64 0]).cells (grownCap W (q.length+1) sc 181-(q.length+1))) 181)):=((Below.refl _ W).drew).alloc (Nat.le_refl _) _
   exact ⟨hbel.os,hbel.tape,hbel.output,hbel.size,fun i hi _=>hbel.block i hi⟩
 rcases h with ⟨rfl,rfl⟩ | ⟨g,o,cap,cs,rfl,h1,h2,h3,h4,h5,h6⟩
 ·exact grow none 0 0 [] rfl rfl (by omega) (by rw [hz1];exact run_firstCells_none W.drew 2 0 0 0)
 ·by_cases hr:q.length+1≤cap
  ·have hcell:∀ j,j<2→o+q.length * 2+j<cs.size:=fun j hj=>by omega
   have hrun:=run_append_room_src (P:=Tryz.prog) W 230 230 230 181 i0 Tryz.underlying230 hi g o q.length cap _ 1 _ hs hr (by
    intro j hj
    rw [hz1,h1.cell,Array.getElem?_eq_getElem (hcell j hj)];rfl) (fun j _=>h1.frozen _)
   rw [hz1] at hrun
   refine ⟨_,_,hrun,.inr ⟨g,o,cap,_,by rw [List.length_append,List.length_singleton],blk_put _ _ _ _ h1 (by simp only [List.length_cons,List.length_nil];omega),h2,by rw [List.length_append,List.length_singleton];exact hr,h4,?_,fun j u hj=>?_⟩,grown_cells _ _ _ _,.inl rfl⟩
   ·simp only [List.size_toArray,List.length_append,List.length_take,List.length_drop,Array.length_toList,List.length_cons,List.length_nil]
    omega
   ·rw [plCs_snoc] at hj
    have hlt:=(List.getElem?_eq_some_iff.1 hj).1
    have hpl:=plCs_len q
    rw [List.length_append,hpl] at hlt
    simp only [List.length_cons,List.length_nil] at hlt
    rw [List.getElem?_toArray,List.append_assoc]
    by_cases hjq:j<q.length * 2
    ·rw [List.getElem?_append_left (by omega)] at hj
     rw [List.getElem?_append_left (by simp only [List.length_take,Array.length_toList];omega),List.getElem?_take,if_pos (by omega),Array.getElem?_toList]
     exact h6 j u hj
    ·rw [List.getElem?_append_right (by omega),hpl] at hj
     have hj2:=(List.getElem?_eq_some_iff.1 hj).1
     have hlt2:(List.take (o+q.length * 2) cs.toList).length=o+q.length * 2:=by
      simp only [List.length_take,Array.length_toList]
      omega
     rw [List.getElem?_append_right (by omega),hlt2,show o+j-(o+q.length * 2)=j-q.length * 2 by omega,List.getElem?_append_left hj2]
     exact hj
  ·refine grow (some ⟨g,o,none⟩) q.length cap (plCs q) rfl rfl (by omega) ?_
   rw [hz1]
   exact run_firstCells_some W.drew 2 q.length ⟨g,o,none⟩ q.length cap (plCs q) (plCs_len q) (fun j u hj=>by
    rw [Addr.add_lit]
    show W.drew.cell? ⟨g,o+j,none⟩=some u
    rw [show W.drew.cell? ⟨g,o+j,none⟩=W.cell? ⟨g,o+j,none⟩ from rfl,h1.cell]
    exact h6 j u hj)
end Go.Proofs.YthhfmppealmblaaGreatDoor
namespace Go.Proofs.YthhfmppealmblaaGreatDoor
open Go.RowKit
def setM {κ:Type} (m:List κ):List (κ × Value):=m.map fun x=>(x,Value.bool true)
theorem setM_keys {κ:Type} (m:List κ):(setM m).map (·.1)=m:=by unfold setM;rw [List.map_map];exact List.map_id m
theorem mget_set {κ:Type} [DecidableEq κ] (x:κ):∀ m:List κ,(mget x (setM m)).getD (.bool false) = .bool (decide (x∈m))
 | []=>by simp [setM,mget]
 | y :: m=>by
  have ih:=mget_set x m
  unfold setM at ih ⊢
  rw [List.map_cons,mget]
  by_cases e:y=x
  ·subst e;simp
  ·have e2:¬ x=y:=fun q=>e q.symm
   simp only [e2,if_false,List.mem_cons,false_or]
   exact ih
theorem mget_set_none {κ:Type} [DecidableEq κ] {x:κ} {m:List κ} (h:x ∉ m):mget x (setM m)=none:=mget_no.2 (by rw [setM_keys];exact h)
theorem mput_set {κ:Type} [DecidableEq κ] {x:κ} {m:List κ} (h:x ∉ m):mput x (.bool true) (setM m)=setM (m++[x]):=by
 rw [mput_none _ (mget_set_none h)]
 unfold setM
 rw [List.map_append];rfl
structure AcM (w:World) (B:Nat) (m q:List Pl) (W:World):Prop where
 b:Below w.heap.size w W
 x1:Blk W w.heap.size 130 #[.pointer (some ⟨B,0,none⟩)]
 mp:Mp ekL W (w.heap.size+1) (setM m)
 x3:Blk W (w.heap.size+1+1) 178 #[.map (some (w.heap.size+1))]
 x4:∃ v,Blk W (w.heap.size+1+1+1) 230 #[v]∧QuI W (w.heap.size+1+1+1+1) v q
theorem AcM.low {w:World} {B:Nat} {m q:List Pl} {W W':World} (h:AcM w B m q W) (hb:Below W.heap.size W W'):AcM w B m q W':=by
 obtain ⟨v,h1,h2⟩:=h.x4
 exact ⟨below_step h.b hb,h.x1.below hb,h.mp.below hb,h.x3.below hb,v,h1.below hb,h2.below hb⟩
theorem mp_not_blk {κ:Type} {ek:κ→Value} {W:World} {b i:Nat} {l:List (κ × Value)} {t:TypeId} {cs:Array Value} (h:Mp ek W b l) (hb:Blk W i t cs):i≠b:=by
 rintro rfl
 obtain ⟨es,clock,e,_⟩:=h
 rw [show W.heap[i]?=_ from hb] at e
 cases e
theorem AcM.grown {w:World} {B:Nat} {m q:List Pl} {W W':World} (h:AcM w B m q W) {r:Nat} {t:TypeId} {cs:Array Value} (hr:Blk W r t cs) (t1:t≠130) (t2:t≠178) (t3:t≠230) (t4:t≠181) (hn:w.heap.size≤r) (hg:W.grownBy W' (some r)):AcM w B m q W':=by
 obtain ⟨v,h1,h2⟩:=h.x4
 refine ⟨h.b.grown hg h.b.size (fun j e=>by cases e;exact hn),h.x1.grown hg (fun e=>(hr.ne h.x1 t1) (Option.some.inj e)),h.mp.kept hg (fun e=>(mp_not_blk h.mp hr) (Option.some.inj e).symm),h.x3.grown hg (fun e=>(hr.ne h.x3 t2) (Option.some.inj e)),v,h1.grown hg (fun e=>(hr.ne h1 t3) (Option.some.inj e)),h2.kept hg ?_⟩
 rcases h2 with ⟨rfl,_⟩ | ⟨g,o,cap,cs2,rfl,h3,_⟩
 ·exact .inl rfl
 ·exact .inr (by simp only [Value.ownBlock,ne_eq,Option.some.injEq];exact (hr.ne h3 t4).symm)
def AdF (X:Nat) (W W':World):Prop:=W.heap.size≤W'.heap.size∧∀ i t cs,Blk W i t cs→t≠181→i≠X→Blk W' i t cs
theorem AdF.of_below {X:Nat} {W W':World} (h:Below W.heap.size W W'):AdF X W W':=⟨h.size,fun _ _ _ hB _ _=>hB.below h⟩
theorem AdF.trans {X:Nat} {A B C:World} (h:AdF X A B) (k:AdF X B C):AdF X A C:=⟨Nat.le_trans h.1 k.1,fun i t cs hB ht hi=>k.2 i t cs (h.2 i t cs hB ht hi) ht hi⟩
def OffQ (X N:Nat) (W:World):Prop:=∀ v,Blk W X 230 #[v]→v.ownBlock≠some N
def AdN (X:Nat) (W W':World):Prop:=∀ N cs,Blk W N 181 cs→OffQ X N W→Blk W' N 181 cs∧OffQ X N W'
theorem offQ_same {X N:Nat} {W W':World} {v:Value} (h:Blk W X 230 #[v]) (h':Blk W' X 230 #[v]) (ho:OffQ X N W):OffQ X N W':=fun u hu=>by
 unfold Blk at h' hu
 rw [h'] at hu
 cases hu
 exact ho _ h
def AdE (w:World) (B:Nat) (S:Sp) (m q:List Pl) (x:Pl) (W:World) (e:Ending) (W':World):Prop:=e = .returned (.tuple #[])∧AcM w B (addM S m x) (addQ S m q x) W'∧AdF (w.heap.size+1+1+1) W W'∧AdN (w.heap.size+1+1+1) W W'
theorem AdN.of_below {w:World} {B:Nat} {m q:List Pl} {W W':World} (h:AcM w B m q W) (hb:Below W.heap.size W W'):AdN (w.heap.size+1+1+1) W W':=fun N cs hN ho=>by
 obtain ⟨v,h4,_⟩:=h.x4
 exact ⟨hN.below hb,offQ_same h4 (h4.below hb) ho⟩
theorem AdN.trans {X:Nat} {A B C:World} (h:AdN X A B) (k:AdN X B C):AdN X A C:=fun N cs hN ho=>by
 obtain ⟨h1,h2⟩:=h N cs hN ho
 exact k N cs h1 h2
theorem adE_no {w:World} {B:Nat} {S:Sp} {m q:List Pl} {x:Pl} {W W':World} (h:AcM w B m q W) (hb:Below W.heap.size W W') (hn:keyOk S x=false∨x∈m):AdE w B S m q x W (.returned (.tuple #[])) W' :=
 ⟨rfl,by rw [addM_no hn,addQ_no hn];exact h.low hb,AdF.of_below hb,AdN.of_below h hb⟩
theorem AcM.upd {w:World} {B:Nat} {m q:List Pl} {W W':World} (h:AcM w B m q W) {x:Pl} (hx:x ∉ m) (hm:Mp ekL W' (w.heap.size+1) (mput x (.bool true) (setM m))) (hg:W.grownBy W' (some (w.heap.size+1))):AcM w B (m++[x]) q W'∧AdF (w.heap.size+1+1+1) W W'∧AdN (w.heap.size+1+1+1) W W':=by
 obtain ⟨v,h1,h2⟩:=h.x4
 have hn:∀ {i:Nat} {t:TypeId} {cs:Array Value},Blk W i t cs→some (w.heap.size+1)≠some i:=fun hb e=>mp_not_blk h.mp hb (Option.some.inj e).symm
 refine ⟨⟨h.b.grown hg h.b.size (fun j e=>by cases e;omega),h.x1.grown hg (hn h.x1),by rw [← mput_set hx];exact hm,h.x3.grown hg (hn h.x3),v,h1.grown hg (hn h1),h2.kept hg ?_⟩,⟨hg.size,fun i t cs hB _ _=>hB.grown hg (hn hB)⟩,fun N cs hN ho=>⟨hN.grown hg (hn hN),offQ_same h1 (h1.grown hg (hn h1)) ho⟩⟩
 rcases h2 with ⟨rfl,_⟩ | ⟨g,o,cap,cs2,rfl,h3,_⟩
 ·exact .inl rfl
 ·exact .inr (fun e=>hn h3 e.symm)
theorem que_blk {W1 W':World} {base:Nat} {v:Value} {q:List Pl} (hq:QuI W1 base v q) {i:Nat} {t:TypeId} {cs:Array Value} (hB:Blk W1 i t cs) (ht:t≠181) (hg:W1.grownBy W' v.ownBlock):Blk W' i t cs:=by
 refine hB.grown hg (fun e=>?_)
 rcases hq with ⟨rfl,_⟩ | ⟨g,o,cap,cs2,rfl,h3,_⟩
 ·cases e
 ·simp only [Value.ownBlock,Option.some.injEq] at e
  exact (h3.ne hB (fun z=>ht z.symm)) e
theorem AcM.que {w:World} {B:Nat} {m q q':List Pl} {W W1 W':World} {v v':Value} (h:AcM w B m q W) (h4:Blk W (w.heap.size+1+1+1) 230 #[v]) (hb:Below W.heap.size W W1) (hq:QuI W1 (w.heap.size+1+1+1+1) v q) (hq':QuI W' (w.heap.size+1+1+1+1) v' q') (hg:W1.grownBy W' v.ownBlock) (hv:v'.ownBlock=v.ownBlock∨v'.ownBlock=some W1.heap.size) :
  AcM w B m q' (W'.setCell ⟨w.heap.size+1+1+1,0,none⟩ v')∧AdF (w.heap.size+1+1+1) W (W'.setCell ⟨w.heap.size+1+1+1,0,none⟩ v')∧AdN (w.heap.size+1+1+1) W (W'.setCell ⟨w.heap.size+1+1+1,0,none⟩ v'):=by
 have h1:=h.low hb
 have h41:=h4.below hb
 have hg2:W'.grownBy (W'.setCell ⟨w.heap.size+1+1+1,0,none⟩ v') (some (w.heap.size+1+1+1)):=set_grown _ _ _ _
 have hvn:∀ {i:Nat} {t:TypeId} {cs:Array Value},Blk W1 i t cs→t≠181→v.ownBlock≠some i:=by
  intro i t cs hB ht e
  rcases hq with ⟨rfl,_⟩ | ⟨g,o,cap,cs2,rfl,h3,_⟩
  ·cases e
  ·simp only [Value.ownBlock,Option.some.injEq] at e
   exact (h3.ne hB (fun z=>ht z.symm)) e
 have hbase:∀ j,v.ownBlock=some j→w.heap.size≤j:=by
  intro j e
  rcases hq with ⟨rfl,_⟩ | ⟨g,o,cap,cs2,rfl,_,h3,_⟩
  ·cases e
  ·simp only [Value.ownBlock,Option.some.injEq] at e
   omega
 have step:∀ {i:Nat} {t:TypeId} {cs:Array Value},Blk W1 i t cs→t≠181→i≠w.heap.size+1+1+1→Blk (W'.setCell ⟨w.heap.size+1+1+1,0,none⟩ v') i t cs:=fun hB ht hi =>
  (hB.grown hg (hvn hB ht)).other _ _ hi
 have h4':Blk W' (w.heap.size+1+1+1) 230 #[v]:=h41.grown hg (hvn h41 (by decide))
 refine ⟨⟨(h1.b.grown hg h1.b.size (fun j e=>hbase j e)).setCell (p:=⟨w.heap.size+1+1+1,0,none⟩) (by show w.heap.size≤w.heap.size+1+1+1;omega) v',step h1.x1 (by decide) (by omega),?_,step h1.x3 (by decide) (by omega),v',h4'.set 0 v',?_⟩,⟨Nat.le_trans hb.size (Nat.le_trans hg.size hg2.size),fun i t cs hB ht hi=>step (hB.below hb) ht hi⟩,fun N cs hN ho=>?_⟩
 ·refine (h1.mp.kept hg ?_).kept hg2 (by simp)
  intro e
  rcases hq with ⟨rfl,_⟩ | ⟨g,o,cap,cs2,rfl,h3,_⟩
  ·cases e
  ·simp only [Value.ownBlock,Option.some.injEq] at e
   exact mp_not_blk h1.mp h3 e.symm
 ·refine hq'.kept hg2 ?_
  rcases hq' with ⟨rfl,_⟩ | ⟨g,o,cap,cs2,rfl,h3,_⟩
  ·exact .inl rfl
  ·exact .inr (fun e=>by
    simp only [Value.ownBlock,Option.some.injEq] at e
    exact (h3.ne h4' (by decide)) e)
 ·have hvN:=ho v h4
  have hNX:N≠w.heap.size+1+1+1:=hN.ne h4 (by decide)
  refine ⟨((hN.below hb).grown hg (fun e=>hvN e)).other _ _ hNX,fun u hu=>?_⟩
  have hx:=h4'.set 0 v'
  unfold Blk at hx hu
  rw [hx] at hu
  cases hu
  rcases hv with e | e
  ·rw [e];exact hvN
  ·rw [e]
   intro q2
   have h9:=Option.some.inj q2
   have h8:=hN.lt
   have h7:=hb.size
   omega
end Go.Proofs.YthhfmppealmblaaGreatDoor
namespace Go.Proofs.YthhfmppealmblaaGreatDoor
open Go.RowKit
set_option maxRecDepth 100000 in
set_option maxHeartbeats 6400000 in
theorem actAdd_any (v1 v2 v3 v4:Value) (S:Sp) (fp:Nat→Value) (PB B:Nat) (f:Th→Int) (t:Int) (w:World) (hsp:SpRd w v1 v2 v3 v4 fp S) (hpb:Blk w PB 27 #[v1,v2,v3,v4]) (hpx:PlX f t PB w B) (d:Nat) (hd:d<S.ds.length) (key:Int) (m q:List Pl) (hq:q.length≤1000) (W:World) (h:AcM w B m q W) :
  Calls Tryz.prog 130 #[.agg #[.int .i64 d,.int .i64 key],.pointer (some ⟨w.heap.size,0,none⟩),.pointer (some ⟨w.heap.size+1+1,0,none⟩),.pointer (some ⟨w.heap.size+1+1+1,0,none⟩)] W (AdE w B S m q ((d:Int),key) W):=by
 obtain ⟨b,o,c,ev,hbl,r0,r1,r2⟩:=hsp.dAt d hd
 subst ev
 have hki:=keyIn_at hd key
 obtain ⟨dn,hdn⟩:∃ x,S.ds[d].name=x:=⟨_,rfl⟩
 obtain ⟨lo,hlo⟩:∃ x,S.ds[d].lo=x:=⟨_,rfl⟩
 obtain ⟨hi,hhi⟩:∃ x,S.ds[d].hi=x:=⟨_,rfl⟩
 rw [hdn] at r0
 rw [hlo] at r1 hki
 rw [hhi] at r2 hki
 have hko:keyOk S ((d:Int),key)=decide (lo≤key∧key≤hi):=by
  unfold keyOk
  simp only
  rw [hki,decide_eq_true (show (0:Int)≤(d:Int) by omega),decide_eq_true (show (d:Int)<(S.ds.length:Int) by omega),Bool.true_and,Bool.and_true]
 have HKO:=Lib.hid hko
 have hd2:(d:Int)<(S.ds.length:Int):=by omega
 have hb1:Below W.heap.size W (W.alloc (.cells #[.int .i64 d,.int .i64 key] 181)):=(Below.refl _ W).alloc (Nat.le_refl _) _
 have h1:=h.low hb1
 have HB1:=Lib.hid hb1
 have HM1:=Lib.hid h1
 have x1:=h1.x1.cell 0
 have p0:=(h1.b.cell (cell_size hpx.sp)).trans hpx.sp
 have s0:=(h1.b.cell (cell_size (hpb.cell 0))).trans (hpb.cell 0)
 simp only [List.getElem?_toArray,List.getElem?_cons_zero] at x1 s0
 have HP1:=Lib.hid (Blk.new W 181 #[.int .i64 d,.int .i64 key])
 replace r0:=(h1.b.cell hbl).trans r0
 replace r1:=(h1.b.cell hbl).trans r1
 replace r2:=(h1.b.cell hbl).trans r2
 have c0:=HP1.out.cell 0
 simp only [List.getElem?_toArray,List.getElem?_cons_zero] at c0
 have HM0:=Lib.hid h
 clear h1 h hdn hlo hhi hki hko hsp hpb hpx hbl hb1
 go_enter Tryz.func130,Tryz.ntmps130
 go_upto_region 1 with fail
 obtain ⟨P,hP⟩:∃ P,W.heap.size=P:=⟨_,rfl⟩
 rw [hP] at HP1 c0 ⊢
 generalize W.alloc (.cells #[.int .i64 d,.int .i64 key] 181)=W1 at *
 have y0:=cell_alloc x1
 have y1:=cell_alloc p0
 have y2:=cell_alloc s0
 have y3:=cell_alloc r0
 have y4:=cell_alloc r1
 have y5:=cell_alloc r2
 have y6:=cell_alloc c0
 go_wp2_with fail
 go_region
 have hb2:Below W1.heap.size W1 ((W1.alloc (.cells #[.string dn,.int .i64 lo,.int .i64 hi] 84)).drew):=((Below.refl _ W1).alloc (Nat.le_refl _) _).drew
 have hb20:=below_step HB1.out hb2
 have HM2:=Lib.hid (HM1.out.low hb2)
 have HB2:=Lib.hid hb20
 have HD2:=Lib.hid ((Blk.new W1 84 #[.string dn,.int .i64 lo,.int .i64 hi]).below ((Below.refl _ (W1.alloc (.cells #[.string dn,.int .i64 lo,.int .i64 hi] 84))).drew))
 have HP2:=Lib.hid (HP1.out.below hb2)
 obtain ⟨P2,hP2⟩:∃ P2,W1.heap.size=P2:=⟨_,rfl⟩
 rw [hP2] at HD2 ⊢
 generalize (W1.alloc (.cells #[.string dn,.int .i64 lo,.int .i64 hi] 84)).drew=W2 at *
 clear x1 p0 s0 r0 r1 r2 c0 y0 y1 y2 y3 y4 y5 y6 hb2 hb20 HM1 HP1 HB1 hP2
 have z0:W2.cell? ⟨P,0,none⟩=some (.int .i64 d):=HP2.out.cell 0
 have z1:W2.cell? ⟨P,1,none⟩=some (.int .i64 key):=HP2.out.cell 1
 have e1:W2.cell? ⟨P2,1,none⟩=some (.int .i64 lo):=HD2.out.cell 1
 have e2:W2.cell? ⟨P2,2,none⟩=some (.int .i64 hi):=HD2.out.cell 2
 have x3:W2.cell? ⟨w.heap.size+1+1,0,none⟩=some (.map (some (w.heap.size+1))):=HM2.out.x3.cell 0
 by_cases k1:key<lo
 ·have q1:decide (lo≤key)=false:=decide_eq_false (by omega)
  have HN:=Lib.hid (show keyOk S ((d:Int),key)=false by rw [HKO.out,decide_eq_false_iff_not];omega)
  go_wp2
  refine bodyPost_ret (results_none rfl _ _ _) rfl ?_
  exact adE_no HM0.out HB2.out (.inl HN.out)
 have q1:decide (lo≤key)=true:=decide_eq_true (by omega)
 by_cases k2:hi<key
 ·have q2:decide (key≤hi)=false:=decide_eq_false (by omega)
  have HN:=Lib.hid (show keyOk S ((d:Int),key)=false by rw [HKO.out,decide_eq_false_iff_not];omega)
  go_wp2
  refine bodyPost_ret (results_none rfl _ _ _) rfl ?_
  exact adE_no HM0.out HB2.out (.inl HN.out)
 have q2:decide (key≤hi)=true:=decide_eq_true (by omega)
 have HY:=Lib.hid (show keyOk S ((d:Int),key)=true by rw [HKO.out,decide_eq_true_iff];omega)
 have hmp:=HM2.out.mp
 obtain ⟨bb,hbb⟩:∃ bb,decide (((d:Int),key)∈m)=bb:=⟨_,rfl⟩
 have hget:(mget ((d:Int),key) (setM m)).getD (.bool false) = .bool bb:=by
  rw [mget_set,← hbb]
  congr
 have hlk:(Instr.lookup 178 (.map (some (w.heap.size+1))) (.agg #[.int .i64 d,.int .i64 key]) false).run Tryz.prog W2 = .ok (.bool bb) W2:=by
  rw [← hget]
  exact (hmp.lookup pl_keys Tryz.underlying178 (Tryz.zeroValue4 _) ((d:Int),key)).1
 cases bb with
 | true =>
  have HX:=Lib.hid (of_decide_eq_true hbb)
  go_wp2
  refine bodyPost_ret (results_none rfl _ _ _) rfl ?_
  exact adE_no HM0.out HB2.out (.inr HX.out)
 | false =>
  have HX:=Lib.hid (of_decide_eq_false hbb)
  go_upto_region 4 with (at_mapUpdate;refine wpList_update_mp _ rfl _ _ _ 178 rfl 4 pl_keys Tryz.underlying178 rfl hmp ((d:Int),key) (.bool true) rfl rfl ?_;intro W3 hm3 hg3 hs3)
  obtain ⟨hu,hf,hnn⟩:=HM2.out.upd HX.out hm3 hg3
  obtain ⟨vq,h4,hqu⟩:=hu.x4
  have HU:=Lib.hid hu
  have HF:=Lib.hid hf
  have HP3:=Lib.hid (HP2.out.grown hg3 (fun e=>mp_not_blk hmp HP2.out (Option.some.inj e).symm))
  have HFA:=Lib.hid (addM_yes (m:=m) HY.out HX.out)
  have HFQ:=Lib.hid (addQ_yes (m:=m) (q:=q) HY.out HX.out)
  have hbt:Below W3.heap.size W3 (W3.alloc (.cells #[.int .i64 d,.int .i64 key] 181)):=(Below.refl _ W3).alloc (Nat.le_refl _) _
  have hq1:=hqu.below hbt
  have ht3:Blk (W3.alloc (.cells #[.int .i64 d,.int .i64 key] 181)) W3.heap.size 181 #[.int .i64 d,.int .i64 key]:=Blk.new W3 _ _
  have hsz3:=hu.x4
  obtain ⟨v',W5,hr1,hq5,hg5,hv5⟩:=hq1.push (by
   have:=h4.lt
   have:=hbt.size
   omega) (by omega) ((d:Int),key) ⟨W3.heap.size,0,none⟩ 1 (fun j u hj=>by
    rw [Addr.add_lit]
    show (W3.alloc _).cell? ⟨W3.heap.size,0+j,none⟩=some u
    rw [ht3.cell,Nat.zero_add,List.getElem?_toArray];exact hj)
  obtain ⟨hu5,hf5,hn5⟩:=hu.que h4 hbt hq1 hq5 hg5 hv5
  have hx5:=que_blk hq1 (h4.below hbt) (by decide) hg5
  have HE:=Lib.hid (show AdE w B S m q ((d:Int),key) W (.returned (.tuple #[])) (W5.setCell ⟨w.heap.size+1+1+1,0,none⟩ v') from ⟨rfl,by rw [HFA.out,HFQ.out];exact hu5,((AdF.of_below HB2.out).trans HF.out).trans hf5,((AdN.of_below HM0.out HB2.out).trans hnn).trans hn5⟩)
  obtain ⟨av,cv,ev⟩:=hq5.form
  rw [List.length_append,List.length_singleton] at ev
  subst ev
  have x5:W5.cell? ⟨w.heap.size+1+1+1,0,none⟩=some vq:=hx5.cell 0
  have x5f:W5.frozen? ⟨w.heap.size+1+1+1,0,none⟩=false:=hx5.frozen 0
  have x4:W3.cell? ⟨w.heap.size+1+1+1,0,none⟩=some vq:=h4.cell 0
  have y0:W3.cell? ⟨P,0,none⟩=some (.int .i64 d):=HP3.out.cell 0
  have y1:W3.cell? ⟨P,1,none⟩=some (.int .i64 key):=HP3.out.cell 1
  clear hu hf hnn hn5 hv5 hqu h4 hu5 hf5 hx5 hq1 hq5 hg5 hbt ht3 hsz3 hm3 hg3 hs3 hmp z0 z1 e1 e2 x3
  go_wp2_with (at_builtin;refine Lib.wpList_append_run _ rfl _ _ _ _ rfl _ _ rfl rfl _ _ hr1 ?_)
  refine bodyPost_ret (results_none rfl _ _ _) rfl ?_
  exact HE.out
end Go.Proofs.YthhfmppealmblaaGreatDoor
namespace Go.Proofs.YthhfmppealmblaaGreatDoor
open Go.RowKit
theorem hold2 {W0 W w':World} {a0:Addr} {u0:Value} {a1:Addr} {u1:Value} (h:Below W0.heap.size W0 W∧W.cell? a0=some u0∧W.cell? a1=some u1) (hb:Below W.heap.size W w'):Below W0.heap.size W0 w'∧w'.cell? a0=some u0∧w'.cell? a1=some u1:=by
 obtain ⟨hB,h0,h1⟩:=h
 exact ⟨below_step hB hb,(hb.cell (cell_size h0)).trans h0,(hb.cell (cell_size h1)).trans h1⟩
theorem hold4 {W0 W w':World} {a0:Addr} {u0:Value} {a1:Addr} {u1:Value} {a2:Addr} {u2:Value} {a3:Addr} {u3:Value} (h:Below W0.heap.size W0 W∧W.cell? a0=some u0∧W.cell? a1=some u1∧W.cell? a2=some u2∧W.cell? a3=some u3) (hb:Below W.heap.size W w'):Below W0.heap.size W0 w'∧w'.cell? a0=some u0∧w'.cell? a1=some u1∧w'.cell? a2=some u2∧w'.cell? a3=some u3:=by
 obtain ⟨hB,h0,h1,h2,h3⟩:=h
 exact ⟨below_step hB hb,(hb.cell (cell_size h0)).trans h0,(hb.cell (cell_size h1)).trans h1,(hb.cell (cell_size h2)).trans h2,(hb.cell (cell_size h3)).trans h3⟩
theorem hold11 {W0 W w':World} {a0:Addr} {u0:Value} {a1:Addr} {u1:Value} {a2:Addr} {u2:Value} {a3:Addr} {u3:Value} {a4:Addr} {u4:Value} {a5:Addr} {u5:Value} {a6:Addr} {u6:Value} {a7:Addr} {u7:Value} {a8:Addr} {u8:Value} {a9:Addr} {u9:Value} {a10:Addr} {u10:Value} (h:Below W0.heap.size W0 W∧W.cell? a0=some u0∧W.cell? a1=some u1∧W.cell? a2=some u2∧W.cell? a3=some u3∧W.cell? a4=some u4∧W.cell? a5=some u5∧W.cell? a6=some u6∧W.cell? a7=some u7∧W.cell? a8=some u8∧W.cell? a9=some u9∧W.cell? a10=some u10) (hb:Below W.heap.size W w'):Below W0.heap.size W0 w'∧w'.cell? a0=some u0∧w'.cell? a1=some u1∧w'.cell? a2=some u2∧w'.cell? a3=some u3∧w'.cell? a4=some u4∧w'.cell? a5=some u5∧w'.cell? a6=some u6∧w'.cell? a7=some u7∧w'.cell? a8=some u8∧w'.cell? a9=some u9∧w'.cell? a10=some u10:=by
 obtain ⟨hB,h0,h1,h2,h3,h4,h5,h6,h7,h8,h9,h10⟩:=h
 exact ⟨below_step hB hb,(hb.cell (cell_size h0)).trans h0,(hb.cell (cell_size h1)).trans h1,(hb.cell (cell_size h2)).trans h2,(hb.cell (cell_size h3)).trans h3,(hb.cell (cell_size h4)).trans h4,(hb.cell (cell_size h5)).trans h5,(hb.cell (cell_size h6)).trans h6,(hb.cell (cell_size h7)).trans h7,(hb.cell (cell_size h8)).trans h8,(hb.cell (cell_size h9)).trans h9,(hb.cell (cell_size h10)).trans h10⟩
end Go.Proofs.YthhfmppealmblaaGreatDoor
namespace Go.Proofs.YthhfmppealmblaaGreatDoor
open Go.RowKit
end Go.Proofs.YthhfmppealmblaaGreatDoor
namespace Go.Proofs.YthhfmppealmblaaGreatDoor
open Go.RowKit
structure RwsI (base n KB:Nat) (vals:Nat→Value) (G:Nat→List Int) (W:World):Prop where
 blk:∃ cs,Blk W KB 68 cs∧cs.size=n∧∀ d,d<n→cs[d]?=some (vals d)
 rows:∀ d,d<n→W.ownsRow base 3 1 (vals d) (G d).length (iCs (G d))
 apart:∀ d e,d<n→e<n→d≠e→(vals d).ownBlock=none∨(vals d).ownBlock≠(vals e).ownBlock
 kb:base≤KB
theorem RwsI.below {base n KB:Nat} {vals:Nat→Value} {G:Nat→List Int} {W W':World} (h:RwsI base n KB vals G W) (hb:Below W.heap.size W W'):RwsI base n KB vals G W':=by
 obtain ⟨⟨cs,h1,h2,h3⟩,hr,ha,hk⟩:=h
 exact ⟨⟨cs,h1.below hb,h2,h3⟩,fun d hd=>row_later (hr d hd) hb,ha,hk⟩
theorem RwsI.cell {base n KB:Nat} {vals:Nat→Value} {G:Nat→List Int} {W:World} (h:RwsI base n KB vals G W) {d:Nat} (hd:d<n):W.cell? ⟨KB,d,none⟩=some (vals d):=by
 obtain ⟨⟨cs,h1,h2,h3⟩,_⟩:=h
 rw [h1.cell];exact h3 d hd
theorem row_not {W:World} {base:Nat} {t t':TypeId} {k n:Nat} {v:Value} {xs:List Value} (h:W.ownsRow base t k v n xs) {B:Nat} {cs:Array Value} (hb:Blk W B t' cs) (ht:t'≠t):v.ownBlock≠some B:=by
 intro e
 rcases h.2 with ⟨rfl,_⟩ | ⟨g,cap,cur,rfl,_,hg,_⟩
 ·cases e
 ·simp only [Value.ownBlock,Option.some.injEq] at e
  subst e
  rw [show W.heap[g]?=_ from hb] at hg
  cases hg
  exact ht rfl
theorem RwsI.start {base n KB:Nat} {W:World} {cs:Array Value} (hb:Blk W KB 68 cs) (hs:cs.size=n) (hc:∀ d,d<n→cs[d]?=some (.slice none 0 0)) (hk:base≤KB):RwsI base n KB (fun _ => .slice none 0 0) (fun _=>[]) W :=
 ⟨⟨cs,hb,hs,hc⟩,fun _ _=>World.ownsRow_nil _ _ _ _,fun _ _ _ _ _ => .inl rfl,hk⟩
theorem RwsI.push {base n KB:Nat} {vals:Nat→Value} {G:Nat→List Int} {W W1 W3:World} (h:RwsI base n KB vals G W) (hb:Below W.heap.size W W1) {d:Nat} (hd:d<n) {k:Int} {g cap m:Nat} (hown:W3.ownsRow base 3 1 (.slice (some ⟨g,0,none⟩) m cap) m (iCs (G d)++[.int .i64 k])) (hm:m=(G d).length+1)
  (hg:W1.grownBy W3 (vals d).ownBlock) (hat:(vals d).ownBlock=some g∨g=W1.heap.size) :
  RwsI base n KB (fun e=>if e=d then .slice (some ⟨g,0,none⟩) m cap else vals e) (fun e=>if e=d then G d++[k] else G e) (W3.setCell ⟨KB,d,none⟩ (.slice (some ⟨g,0,none⟩) m cap)):=by
 have h1:=h.below hb
 obtain ⟨⟨cs,hB,hsz,hc⟩,hr,ha,hk⟩:=h1
 have hKB:(vals d).ownBlock≠some KB:=row_not (hr d hd) hB (by decide)
 have hB3:Blk W3 KB 68 cs:=hB.grown hg hKB
 have hgK:g≠KB:=by
  rcases hat with e | e
  ·intro q;rw [q] at e;exact hKB e
  ·have:=hB.lt;omega
 refine ⟨⟨_,hB3.set d _,by rw [Array.size_setIfInBounds];exact hsz,fun e he=>?_⟩,fun e he=>?_,fun a b hA hBn hne=>?_,hk⟩
 ·rw [Array.getElem?_setIfInBounds]
  by_cases q:d=e
  ·subst q;rw [if_pos rfl,if_pos (by omega),if_pos rfl]
  ·rw [if_neg q,if_neg (fun z=>q z.symm)]
   exact hc e he
 ·have hgrow:W3.grownBy (W3.setCell ⟨KB,d,none⟩ (.slice (some ⟨g,0,none⟩) m cap)) (some KB):=set_grown _ _ _ _
  by_cases q:e=d
  ·subst q
   simp only [if_true]
   rw [List.length_append,List.length_singleton,← hm,show iCs (G e++[k])=iCs (G e)++[.int .i64 k] from iCs_snoc _ _]
   exact hown.kept hgrow (.inr (by simp only [Value.ownBlock,ne_eq,Option.some.injEq];exact hgK))
  ·simp only [if_neg q]
   have h3:(vals e).ownBlock=none∨(vals e).ownBlock≠(vals d).ownBlock:=ha e d he hd q
   have h4:W3.ownsRow base 3 1 (vals e) (G e).length (iCs (G e)):=(hr e he).kept hg h3
   exact h4.kept hgrow (.inr (row_not h4 hB3 (by decide)))
 ·have hlt:∀ e,e<n→∀ j,(vals e).ownBlock=some j→j<W1.heap.size:=fun e he j hj=>by
   rcases (hr e he).2 with ⟨q,_⟩ | ⟨g2,cap2,cur2,q,_,hg2,_⟩
   ·rw [q] at hj;cases hj
   ·rw [q] at hj
    cases hj
    exact (Array.getElem?_eq_some_iff.1 hg2).1
  by_cases qa:a=d
  ·subst qa
   have qb:¬ b=a:=fun z=>hne z.symm
   simp only [if_true,if_neg qb]
   right
   intro e
   simp only [Value.ownBlock] at e
   rcases hat with q | q
   ·rcases ha a b hA hBn hne with z | z
    ·rw [z] at q;cases q
    ·exact z (by rw [q];exact e)
   ·have:=hlt b hBn g e.symm
    omega
  ·simp only [if_neg qa]
   by_cases qb:b=d
   ·subst qb
    simp only [if_true]
    cases hva:(vals a).ownBlock with
    | none=>exact .inl rfl
    | some j =>
     right
     intro e
     simp only [Value.ownBlock,Option.some.injEq] at e
     subst e
     rcases hat with q | q
     ·rcases ha a b hA hBn hne with z | z
      ·rw [z] at hva;cases hva
      ·exact z (by rw [q,hva])
     ·have:=hlt a hA _ hva
      omega
   ·simp only [if_neg qb]
    exact ha a b hA hBn hne
def onL (f:Th→Int) (k:Int) (n:Nat):List Int:=((List.range n).map fun (i:Nat)=>(i:Int)).filter fun i=>decide (f (k,0,i)=1)
theorem onL_succ (f:Th→Int) (k:Int) (n:Nat):onL f k (n+1)=onL f k n++if f (k,0,(n:Int))=1 then [(n:Int)] else []:=by
 unfold onL
 rw [List.range_succ,List.map_append,List.filter_append]
 by_cases h:f (k,0,(n:Int))=1
 ·rw [if_pos h];simp [h]
 ·rw [if_neg h];simp [h]
theorem len_onL (f:Th→Int) (k:Int) (n:Nat):(onL f k n).length≤n:=by
 unfold onL
 have:=List.length_filter_le (fun i=>decide (f (k,0,i)=1)) ((List.range n).map fun (i:Nat)=>(i:Int))
 rw [List.length_map,List.length_range] at this
 exact this
def playN (f:Th→Int) (d:Int) (n:Nat):List Int:=((List.range n).map fun (k:Nat)=>(k:Int)).filter fun k=>decide (f (1,d,k)=1)
theorem playN_all (f:Th→Int) (d:Int):playN f d 128=playedL f d:=rfl
theorem playN_succ (f:Th→Int) (d:Int) (n:Nat):playN f d (n+1)=playN f d n++if f (1,d,(n:Int))=1 then [(n:Int)] else []:=by
 unfold playN
 rw [List.range_succ,List.map_append,List.filter_append]
 by_cases h:f (1,d,(n:Int))=1
 ·rw [if_pos h];simp [h]
 ·rw [if_neg h];simp [h]
theorem len_playN (f:Th→Int) (d:Int) (n:Nat):(playN f d n).length≤n:=by
 unfold playN
 have:=List.length_filter_le (fun i=>decide (f (1,d,i)=1)) ((List.range n).map fun (i:Nat)=>(i:Int))
 rw [List.length_map,List.length_range] at this
 exact this
def rowG (f:Th→Int) (d k:Nat):Nat→List Int:=fun e=>if e<d then playedL f e else if e=d then playN f d k else []
theorem rowG_zero (f:Th→Int):rowG f 0 0=fun _=>[]:=by
 funext e
 unfold rowG
 rw [if_neg (Nat.not_lt_zero e)]
 split
 ·rfl
 ·rfl
theorem rowG_next (f:Th→Int) (d:Nat):rowG f d 128=rowG f (d+1) 0:=by
 funext e
 unfold rowG
 by_cases h1:e<d
 ·rw [if_pos h1,if_pos (by omega)]
 ·rw [if_neg h1]
  by_cases h2:e=d
  ·rw [if_pos h2,if_pos (by omega),h2];rfl
  ·rw [if_neg h2,if_neg (by omega)]
   split
   ·rfl
   ·rfl
theorem rowG_yes {f:Th→Int} {d k:Nat} (h:f (1,(d:Int),(k:Int))=1):rowG f d (k+1)=fun e=>if e=d then rowG f d k d++[(k:Int)] else rowG f d k e:=by
 funext e
 by_cases q:e=d
 ·subst q
  simp only [if_true]
  unfold rowG
  rw [if_neg (Nat.lt_irrefl e),if_pos rfl,if_neg (Nat.lt_irrefl e),if_pos rfl,playN_succ,if_pos h]
 ·simp only [if_neg q]
  unfold rowG
  rw [if_neg q,if_neg q]
theorem rowG_no {f:Th→Int} {d k:Nat} (h:f (1,(d:Int),(k:Int))≠1):rowG f d (k+1)=rowG f d k:=by
 funext e
 unfold rowG
 by_cases h1:e<d
 ·rw [if_pos h1,if_pos h1]
 ·rw [if_neg h1,if_neg h1]
  by_cases h2:e=d
  ·rw [if_pos h2,if_pos h2,playN_succ,if_neg h,List.append_nil]
  ·rw [if_neg h2,if_neg h2]
theorem rowG_len (f:Th→Int) (d k:Nat) (hk:k≤128) (e:Nat):(rowG f d k e).length≤128:=by
 unfold rowG
 split
 ·rw [← playN_all];exact len_playN _ _ _
 ·split
  ·exact Nat.le_trans (len_playN _ _ _) hk
  ·exact Nat.zero_le _
theorem rowG_full {f:Th→Int} {d e:Nat} (h:e<d):rowG f d 0 e=playedL f e:=by unfold rowG;rw [if_pos h]
structure HdRd (W:World) (vk vs vc:Value) (S:Sp) (f:Th→Int):Prop where
 keys:∃ g:Nat→Value,ARd W vk 1 ((List.range S.ds.length).map fun d=>[g d])∧∀ d,d<S.ds.length→ARd W (g d) 1 ((playedL f d).map iC)
 stops:ARd W vs 1 ((onL f 2 S.ss.length).map iC)
 cous:ARd W vc 1 ((onL f 3 S.cs.length).map iC)
theorem HdRd.later {W W':World} {vk vs vc:Value} {S:Sp} {f:Th→Int} (h:HdRd W vk vs vc S f) (hb:Below W.heap.size W W'):HdRd W' vk vs vc S f:=by
 obtain ⟨⟨g,h1,h2⟩,h3,h4⟩:=h
 exact ⟨⟨g,h1.later hb,fun d hd=>(h2 d hd).later hb⟩,h3.later hb,h4.later hb⟩
theorem ints_info2:(Tryz.prog.info? 68).map (fun i=>(i.zero,i.size,i.bytes))=some (some (.slice none 0 0),1,24):=by kernel_rfl
theorem int64_info:(Tryz.prog.info? 3).map (fun i=>(i.zero,i.size,i.bytes))=some (some (.int .i64 0),1,8):=by kernel_rfl
end Go.Proofs.YthhfmppealmblaaGreatDoor
