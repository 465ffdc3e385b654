/-
  A part of the proof: WC, WD, VH, VI, VJ, VK, VL.
-/
import Derived.Test.YteflhbfgpknabaaGreatDoorN21
import Derived.Test.YteflhbfgpknabaaGreatDoorN08
import Derived.BigQuiet
import Derived.Deep.QuietTactic
import Derived.Test.YteflhbfgpknabaaGreatDoorN07
import Derived.Lib.AppendZeros
import Derived.Lib.AppendZerosOnto
import Derived.Deep.AppendSrc
import Derived.Laws.NewBlocks
import Derived.Laws.IdiomCopy
import Derived.Deep.CutRange
import Derived.Shelf.RegionOpenPlain
import Derived.Shelf.Spec.SlicesInsert
import Derived.ArgAppend
namespace Go.Proofs.YteflhbfgpknabaaGreatDoor
open Go.RowKit Go.Shelf
def drwB (l:List Int) (F:List Ft) (al:Int) (i:Int):Bool:=(decide (i∈l) || decide (((al,i,0):Ft)∈F)) && !(decide (((al + 1,i,0):Ft)∈F))
def drwL (l:List Int) (F:List Ft) (al:Int) (n:Nat):List Int:=((List.range n).map fun (i:Nat)=>(i:Int)).filter (drwB l F al)
theorem drwL_next (l:List Int) (F:List Ft) (al:Int) (n:Nat):drwL l F al (n + 1)=drwL l F al n ++ (if drwB l F al n then [(n:Int)] else []):=by
 unfold drwL
 rw [List.range_succ,List.map_append,List.filter_append,List.map_singleton]
 congr 1
 cases h:drwB l F al n with
 | true=>rw [List.filter_cons_of_pos (by simpa using h),List.filter_nil]; rfl
 | false=>rw [List.filter_cons_of_neg (by simp [h]),List.filter_nil]; rfl
theorem drwL_len (l:List Int) (F:List Ft) (al:Int) (n:Nat):(drwL l F al n).length≤n:=by
 unfold drwL
 refine Nat.le_trans (List.length_filter_le _ _) ?_
 rw [List.length_map,List.length_range]
 exact Nat.le_refl _
def DrwR (m:List Int) (w:World) (e:Ending) (w':World):Prop:=∃ v',e = .returned v'∧w'.ownsRow w.heap.size 3 1 v' m.length (vI m)∧Below w.heap.size w w'
set_option maxRecDepth 100000 in
set_option maxHeartbeats 6400000 in
theorem drawn30_any (l:List Int) (v:Value) (n:Nat) (al:Int) (ha:al=3∨al=5) (F:List Ft) (fv:Value) (hl:l.length≤1000) (hn:n≤1000) (hF:F.length≤1000000) (w:World) (hv:ARd w v 1 (l.map iC)) (hfv:ARd w fv 3 (F.map ftC)) :
  Calls Tryz.prog 81 #[v,.int .i64 n,.int .i64 al,fv] w (DrwR (drwL l F al n) w):=by
 obtain ⟨i0,hi0,hz0,hz1,hz2⟩:=info_parts int1_info
 obtain ⟨af,cf,ev⟩:=hfv.ftForm
 subst ev
 obtain ⟨av,cv,ev⟩:=hv.intForm
 subst ev
 have HV:=Lib.hid hv
 have HIN:=Lib.hid (fun (W:World) (hb:Below w.heap.size w W) (a b c:Int)=>in30_any F (.slice af F.length cf) a b c W hF (hfv.later hb))
 have HR0:=Lib.hid (show w.ownsRow w.heap.size 3 1 (.slice none 0 0) (drwL l F al 0).length (vI (drwL l F al 0)) from World.ownsRow_nil _ _ _ _)
 have HB0:=Lib.hid (Below.refl w.heap.size w)
 have ea:IntKind.i64.wrap (al + 1)=al + 1:=IntWalk.i64_in _ (by omega)
 clear hv hfv
 go_enter Tryz.func81,Tryz.ntmps81
 go_wp2
 go_loopw [9,10] (fun u x wr=>∃ i:Nat,i≤n∧x = .int .i64 i∧RowKit.Hid (wr.ownsRow w.heap.size 3 1 u (drwL l F al i).length (vI (drwL l F al i)))∧RowKit.Hid (Below w.heap.size w wr)) (fun _ x _=>n - (intOf x).toNat)
 case atStart=>exact ⟨0,Nat.zero_le _,rfl,HR0,HB0⟩
 clear HR0 HB0
 obtain ⟨i,hi,rfl,hR,hB⟩:=hrel
 by_cases hin:i < n
 ·have hi2:(i:Int) < (n:Int):=by omega
  have hML:=drwL_len l F al i
  have HNX:=Lib.hid (drwL_next l F al i)
  obtain ⟨M,hM⟩:∃ M,drwL l F al i=M:=⟨_,rfl⟩
  rw [hM] at hR HNX hML
  clear hM
  have HX:=Lib.hid (HV.out.later hB.out)
  go_wp2
  go_loopw [11,12] (fun q y wr2=>∃ k:Nat,k≤l.length∧q = .bool (decide ((i:Int)∈l.take k))∧y = .int .i64 k∧wr2=wr) (fun _ y _=>l.length - (intOf y).toNat)
  case atStart=>exact ⟨0,Nat.zero_le _,by simp,rfl,rfl⟩
  obtain ⟨k,hk,rfl,rfl,rfl⟩:=hrel
  by_cases hkl:k < l.length
  ·have hk2:(k:Int) < (l.length:Int):=by omega
   obtain ⟨b,o,c',ev,_,q0⟩:=HX.out.intAt k hkl
   cases ev
   have HT:=Lib.hid (show decide ((i:Int)∈l.take (k + 1))=(decide ((i:Int)∈l.take k) || (l[k] == (i:Int))) from by
    rw [List.take_succ_eq_append_getElem hkl,Bool.eq_iff_iff,Bool.or_eq_true,decide_eq_true_iff,decide_eq_true_iff,beq_iff_eq,List.mem_append,List.mem_singleton,eq_comm (a:=(i:Int))])
   obtain ⟨z,hz⟩:∃ z,l[k]=z:=⟨_,rfl⟩
   rw [hz] at q0 HT
   clear hz
   obtain ⟨q,hq⟩:∃ q,decide ((i:Int)∈l.take k)=q:=⟨_,rfl⟩
   rw [hq] at HT ⊢
   clear hq
   cases q with
   | true =>
    go_wp2
    go_roundw
    case rel=>exact ⟨k + 1,by omega,by rw [HT.out]; rfl,by go_num,trivial⟩
    case measure=>simp [intOf]; omega
   | false =>
    go_wp2
    go_roundw
    case rel=>exact ⟨k + 1,by omega,by rw [HT.out]; rfl,by go_num,trivial⟩
    case measure=>simp [intOf]; omega
  have hk2:¬ (k:Int) < (l.length:Int):=by omega
  have hke:k=l.length:=by omega
  have HK:=Lib.hid (show decide ((i:Int)∈l.take k)=decide ((i:Int)∈l) by rw [hke,List.take_length])
  rw [HK.out]
  clear HK hke
  have HR5:=Lib.hid hR.out
  have HB5:=Lib.hid hB.out
  clear hR hB HX
  cases hq:decide ((i:Int)∈l) with
  | true =>
   go_wp2_with fail
   refine (HIN.out _ HB5.out (al + 1) i 0).mono ?_
   rintro e W6 ⟨rfl,hb6⟩
   have HR6:=Lib.hid (row_later HR5.out hb6)
   have HB6:=Lib.hid (below_step HB5.out hb6)
   clear hb6 HR5 HB5
   have hsz:=HB6.out.size
   cases hr2:decide (((al + 1,(i:Int),0):Ft)∈F) with
   | true =>
    have HN2:=Lib.hid (show drwL l F al (i + 1)=M from by rw [HNX.out,show drwB l F al i=false from by unfold drwB; rw [hr2,Bool.not_true,Bool.and_false]]; simp)
    clear hr2 HNX
    go_wp2
    go_roundw
    case rel=>exact ⟨i + 1,by omega,by go_num,by rw [HN2.out]; exact HR6,HB6⟩
    case measure=>simp [intOf]; omega
   | false =>
    have HN2:=Lib.hid (show drwL l F al (i + 1)=M ++ [(i:Int)] from by rw [HNX.out,show drwB l F al i=true from by unfold drwB; rw [hr2,hq,Bool.true_or,Bool.not_false,Bool.true_and]; try rfl]; simp)
    clear hr2 HNX
    go_wp2_with (at_builtin; refine wpList_append_lies _ rfl _ _ 30 rfl w.heap.size 3 i0 _ 1 8 Tryz.underlying30 hi0 hz0 hz1 hz2 rfl (by omega) _ _ _ rfl (HR6.out.alloc _) ⟨W6.heap.size,0,none⟩ 1 1 [.int .i64 (i:Int)] rfl rfl (World.news_of_block (cs:=#[.int .i64 (i:Int)]) (t:=3) (fr:=(0,0)) (heap_alloc_new W6 _)) (by simp [Value.oneCell']) (by omega) (by unfold maxLen; omega) (by omega) (by simp; omega) (W6.heap.size + 1) (by simp) ?_; intro gg cap w7 hown3 hgrow hat3 hlt3)
    have HB7:=Lib.hid (push_low HB6.out HR6.out hgrow)
    have HR7:=Lib.hid (show w7.ownsRow w.heap.size 3 1 (.slice (some ⟨gg,0,none⟩) (M.length + 1) cap) (drwL l F al (i + 1)).length (vI (drwL l F al (i + 1))) from by
     rw [HN2.out,List.length_append,List.length_singleton]
     simpa [vI] using hown3)
    clear hown3 hgrow hat3 hlt3
    go_wp2
    go_roundw
    case rel=>exact ⟨i + 1,by omega,by go_num,HR7,HB7⟩
    case measure=>simp [intOf]; omega
  | false =>
   go_wp2_with fail
   refine (HIN.out _ HB5.out al i 0).mono ?_
   rintro e W4 ⟨rfl,hb4⟩
   replace HR5:=Lib.hid (row_later HR5.out hb4)
   replace HB5:=Lib.hid (below_step HB5.out hb4)
   clear hb4
   cases hr1:decide (((al,(i:Int),0):Ft)∈F) with
   | true =>
    go_wp2_with fail
    refine (HIN.out _ HB5.out (al + 1) i 0).mono ?_
    rintro e W6 ⟨rfl,hb6⟩
    have HR6:=Lib.hid (row_later HR5.out hb6)
    have HB6:=Lib.hid (below_step HB5.out hb6)
    clear hb6 HR5 HB5
    have hsz:=HB6.out.size
    cases hr2:decide (((al + 1,(i:Int),0):Ft)∈F) with
    | true =>
     have HN2:=Lib.hid (show drwL l F al (i + 1)=M from by rw [HNX.out,show drwB l F al i=false from by unfold drwB; rw [hr2,Bool.not_true,Bool.and_false]]; simp)
     clear hr2 HNX
     go_wp2
     go_roundw
     case rel=>exact ⟨i + 1,by omega,by go_num,by rw [HN2.out]; exact HR6,HB6⟩
     case measure=>simp [intOf]; omega
    | false =>
     have HN2:=Lib.hid (show drwL l F al (i + 1)=M ++ [(i:Int)] from by rw [HNX.out,show drwB l F al i=true from by unfold drwB; rw [hr2,hq,hr1,Bool.false_or,Bool.not_false,Bool.true_and]; try rfl]; simp)
     clear hr2 HNX
     go_wp2_with (at_builtin; refine wpList_append_lies _ rfl _ _ 30 rfl w.heap.size 3 i0 _ 1 8 Tryz.underlying30 hi0 hz0 hz1 hz2 rfl (by omega) _ _ _ rfl (HR6.out.alloc _) ⟨W6.heap.size,0,none⟩ 1 1 [.int .i64 (i:Int)] rfl rfl (World.news_of_block (cs:=#[.int .i64 (i:Int)]) (t:=3) (fr:=(0,0)) (heap_alloc_new W6 _)) (by simp [Value.oneCell']) (by omega) (by unfold maxLen; omega) (by omega) (by simp; omega) (W6.heap.size + 1) (by simp) ?_; intro gg cap w7 hown3 hgrow hat3 hlt3)
     have HB7:=Lib.hid (push_low HB6.out HR6.out hgrow)
     have HR7:=Lib.hid (show w7.ownsRow w.heap.size 3 1 (.slice (some ⟨gg,0,none⟩) (M.length + 1) cap) (drwL l F al (i + 1)).length (vI (drwL l F al (i + 1))) from by
      rw [HN2.out,List.length_append,List.length_singleton]
      simpa [vI] using hown3)
     clear hown3 hgrow hat3 hlt3
     go_wp2
     go_roundw
     case rel=>exact ⟨i + 1,by omega,by go_num,HR7,HB7⟩
     case measure=>simp [intOf]; omega
   | false =>
    have HN2:=Lib.hid (show drwL l F al (i + 1)=M from by rw [HNX.out,show drwB l F al i=false from by unfold drwB; rw [hq,hr1]; rfl]; simp)
    clear hq hr1 HNX
    go_wp2
    go_roundw
    case rel=>exact ⟨i + 1,by omega,by go_num,by rw [HN2.out]; exact HR5,HB5⟩
    case measure=>simp [intOf]; omega
 ·have hi2:¬ (i:Int) < (n:Int):=by omega
  have hie:i=n:=by omega
  rw [hie] at hR
  clear hie
  go_wp2
  go_ret
  exact ⟨_,rfl,hR.out,hB.out⟩
end Go.Proofs.YteflhbfgpknabaaGreatDoor
namespace Go.Proofs.YteflhbfgpknabaaGreatDoor
theorem drw_on {_S:Sp} {F:List Ft} {H:Hn} {k:Int} {n:Nat} {l:List Int} (hk:(k=2∧l=H.ss)∨(k=3∧l=H.cs)):drwL l F (2 * k - 1) n=onL (onF F (onH H)) k n:=by
 unfold drwL onL
 refine List.filter_congr fun i _=>?_
 rw [Bool.eq_iff_iff]
 rcases hk with ⟨rfl,rfl⟩ | ⟨rfl,rfl⟩
 ·rw [decide_eq_true_iff,onF_stop,onH_stop]
  unfold drwB
  rw [show (2 * 2 - 1:Int)=3 from rfl,show (3 + 1:Int)=4 from rfl]
  by_cases a:((4,i,0):Ft)∈F <;> by_cases b:((3,i,0):Ft)∈F <;> by_cases c:i∈H.ss <;> simp [a,b,c]
 ·rw [decide_eq_true_iff,onF_cou,onH_cou]
  unfold drwB
  rw [show (2 * 3 - 1:Int)=5 from rfl,show (5 + 1:Int)=6 from rfl]
  by_cases a:((6,i,0):Ft)∈F <;> by_cases b:((5,i,0):Ft)∈F <;> by_cases c:i∈H.cs <;> simp [a,b,c]
end Go.Proofs.YteflhbfgpknabaaGreatDoor
namespace Go.Proofs.YteflhbfgpknabaaGreatDoor
open Go.RowKit Go.Shelf
structure BsI (l:List Pp) (p:Pp) (i j:Nat):Prop where
 le:i≤j
 len:j≤l.length
 lo:∀ k (hk:k < l.length),k < i→ppLt l[k] p
 hi:∀ k (hk:k < l.length),j≤k→¬ ppLt l[k] p
theorem BsI.up {l:List Pp} {p:Pp} {i j h:Nat} (b:BsI l p i j) (hs:l.Pairwise ppLt) (h1:i≤h) (h2:h < j) (hl:h < l.length) (hc:ppLt l[h] p):BsI l p (h + 1) j :=
 ⟨by omega,b.len,fun k hk hkh=>by
  by_cases e:k=h
  ·subst e; exact hc
  ·exact ppLt_trans (List.pairwise_iff_getElem.1 hs k h hk hl (by omega)) hc,b.hi⟩
theorem BsI.down {l:List Pp} {p:Pp} {i j h:Nat} (b:BsI l p i j) (hs:l.Pairwise ppLt) (h1:i≤h) (h2:h < j) (hl:h < l.length) (hc:¬ ppLt l[h] p):BsI l p i h :=
 ⟨h1,by omega,b.lo,fun k hk hkh=>by
  by_cases e:k=h
  ·subst e; exact hc
  ·exact fun q=>hc (ppLt_trans (List.pairwise_iff_getElem.1 hs h k hl hk (by omega)) q)⟩
theorem hold4c {w W W':World} {p0 p1 p2 p3:Addr} {u0 u1 u2 u3:Value} (h:Below w.heap.size w W∧W.cell? p0=some u0∧W.cell? p1=some u1∧W.cell? p2=some u2∧W.cell? p3=some u3) (hb:Below W.heap.size W W'):Below w.heap.size w W'∧W'.cell? p0=some u0∧W'.cell? p1=some u1∧W'.cell? p2=some u2∧W'.cell? p3=some u3 :=
 ⟨below_step h.1 hb,(hb.cell (cell_size h.2.1)).trans h.2.1,(hb.cell (cell_size h.2.2.1)).trans h.2.2.1,(hb.cell (cell_size h.2.2.2.1)).trans h.2.2.2.1,(hb.cell (cell_size h.2.2.2.2)).trans h.2.2.2.2⟩
theorem BsI.mem {l:List Pp} {p:Pp} {i:Nat} (b:BsI l p i i) (hs:l.Pairwise ppLt):p∈l ↔ ∃ h:i < l.length,l[i]=p:=by
 constructor
 ·intro hp
  obtain ⟨k,hk,rfl⟩:=List.getElem_of_mem hp
  have h1:¬ k < i:=fun h=>ppLt_irrefl _ (b.lo k hk h)
  have h2:i < l.length:=by omega
  refine ⟨h2,?_⟩
  by_cases e:k=i
  ·subst e; rfl
  ·exact absurd (List.pairwise_iff_getElem.1 hs i k h2 hk (by omega)) (b.hi i h2 (Nat.le_refl _))
 ·rintro ⟨h,rfl⟩
  exact List.getElem_mem h
def BsE (l:List Pp) (p:Pp) (w:World) (e:Ending) (w':World):Prop:=∃ i:Nat,BsI l p i i∧e = .returned (.tuple #[.int .i64 i,.bool (decide (p∈l))])∧Below w.heap.size w w'
set_option maxRecDepth 100000 in
set_option maxHeartbeats 6400000 in
theorem search_any (l:List Pp) (hs:l.Pairwise ppLt) (v:Value) (a t:Int) (w:World) (hl:l.length≤1000000) (hv:ARd w v 2 (l.map ppC)) :
  Calls Tryz.prog 78 #[v,.agg #[.int .i64 a,.int .i64 t],.func (.func 42) #[] #[]] w (BsE l (a,t) w):=by
 obtain ⟨av,cv,ev⟩:=hv.form
 rw [List.length_map] at ev
 subst ev
 have hb0:Below w.heap.size w (w.alloc (.cells #[.int .i64 a,.int .i64 t] 78)):=(Below.refl _ _).alloc (Nat.le_refl _) _
 have HB0:=Lib.hid hb0
 have HK0:=Lib.hid (Blk.new w 78 #[.int .i64 a,.int .i64 t])
 have HV:=Lib.hid hv
 have HS:=Lib.hid hs
 have HI0:=Lib.hid (show BsI l (a,t) 0 l.length from ⟨Nat.zero_le _,Nat.le_refl _,fun _ _ h=>absurd h (by omega),fun _ _ h=>absurd h (by omega)⟩)
 clear hv hs hb0
 go_enter Tryz.func78,Tryz.ntmps78
 go_wp2
 generalize w.alloc (.cells #[.int .i64 a,.int .i64 t] 78)=W0 at *
 go_loopw [9,10] (fun x y wr=>∃ i j:Nat,x = .int .i64 i∧y = .int .i64 j∧i≤j∧j≤l.length∧RowKit.Hid (BsI l (a,t) i j)∧RowKit.Hid (Below w.heap.size w wr)∧RowKit.Hid (Blk wr w.heap.size 78 #[.int .i64 a,.int .i64 t])) (fun x y _=>(intOf y).toNat - (intOf x).toNat)
 case atStart=>exact ⟨0,l.length,rfl,rfl,Nat.zero_le _,Nat.le_refl _,HI0,HB0,HK0⟩
 clear HI0 HB0 HK0
 obtain ⟨i,j,rfl,rfl,hij,hjl,hI,hB,hK⟩:=hrel
 by_cases hlt:i < j
 ·have hlt2:(i:Int) < (j:Int):=by omega
  have e1:IntKind.i64.wrap ((i:Int) + (j:Int))=(i:Int) + (j:Int):=IntWalk.i64_in _ (by omega)
  go_upto_region 5 with fail
  obtain ⟨h,hh⟩:∃ h:Nat,((i:Int) + (j:Int)) / 2=(h:Int):=⟨(i + j) / 2,by omega⟩
  rw [hh]
  have hl1:i≤h:=by omega
  have hl2:h < j:=by omega
  have hl3:h < l.length:=by omega
  have hl4:(h:Int) < (l.length:Int):=by omega
  obtain ⟨b,o,c',ev,_,q0,q1⟩:=(HV.out.later hB.out).ppAt h hl3
  cases ev
  have HUP:=Lib.hid (fun hc=>hI.out.up HS.out hl1 hl2 hl3 hc)
  have HDN:=Lib.hid (fun hc=>hI.out.down HS.out hl1 hl2 hl3 hc)
  have z0:wr.cell? ⟨w.heap.size,0,none⟩=some (.int .i64 a):=hK.out.cell 0
  have z1:wr.cell? ⟨w.heap.size,1,none⟩=some (.int .i64 t):=hK.out.cell 1
  obtain ⟨x,hx⟩:∃ x,l[h]=x:=⟨_,rfl⟩
  rw [hx] at q0 q1 HUP HDN
  obtain ⟨x1,x2⟩:=x
  simp only at q0 q1
  have HLT:=Lib.hid (cfI_lt x1 x2 a t)
  have HB1:=Lib.hid (hB.out.drew)
  have HK1:=Lib.hid (hK.out.below (show Below wr.heap.size wr wr.drew from (Below.refl _ _).drew))
  clear hh hx e1
  go_still_tail 6,(by kernel_rfl)
  repeat still_step
  try refine wpStill_nil ?_
  try change wpList _ _ _ _ _ wr.drew
  generalize wr.drew=W1 at *
  clear q0 q1 z0 z1 hB hK hI
  go_wp2_with fail
  refine (byPipe_any x1 x2 a t _).mono ?_
  rintro e w2 ⟨rfl,hg⟩
  have HB3:=Lib.hid (below_step HB1.out hg.below)
  have HK3:=Lib.hid (HK1.out.below hg.below)
  clear hg HB1 HK1
  obtain ⟨z,hz⟩:∃ z,cfI x1 x2 a t=z:=⟨_,rfl⟩
  rw [hz] at HLT ⊢
  clear hz
  by_cases hzz:z < 0
  ·have d1:decide (z < 0)=true:=decide_eq_true hzz
   have HI2:=Lib.hid (HUP.out (HLT.out.1 hzz))
   clear hzz
   go_wp2
   go_roundw
   case rel=>exact ⟨h + 1,j,by go_num,rfl,by omega,by omega,HI2,HB3,HK3⟩
   case measure=>simp [intOf]; omega
  ·have d1:decide (z < 0)=false:=decide_eq_false hzz
   have HI2:=Lib.hid (HDN.out fun q=>hzz (HLT.out.2 q))
   clear hzz
   go_wp2
   go_roundw
   case rel=>exact ⟨i,h,rfl,by go_num,by omega,by omega,HI2,HB3,HK3⟩
   case measure=>simp [intOf]; omega
 ·have hlt2:¬ (i:Int) < (j:Int):=by omega
  have hje:i=j:=by omega
  subst hje
  have HM:=Lib.hid (hI.out.mem HS.out)
  have HI:=Lib.hid hI.out
  clear hI
  go_upto_region 8 with fail
  have HB1:=Lib.hid (hB.out.drew)
  by_cases hn:i < l.length
  ·have hl4:(i:Int) < (l.length:Int):=by omega
   obtain ⟨b,o,c',ev,_,q0,q1⟩:=(HV.out.later hB.out).ppAt i hn
   cases ev
   have HM2:=Lib.hid (show ((a,t):Pp)∈l ↔ l[i]=(a,t) from HM.out.trans ⟨fun ⟨_,h⟩=>h,fun h=>⟨hn,h⟩⟩)
   have z0:wr.cell? ⟨w.heap.size,0,none⟩=some (.int .i64 a):=hK.out.cell 0
   have z1:wr.cell? ⟨w.heap.size,1,none⟩=some (.int .i64 t):=hK.out.cell 1
   obtain ⟨x,hx⟩:∃ x,l[i]=x:=⟨_,rfl⟩
   rw [hx] at q0 q1 HM2
   obtain ⟨x1,x2⟩:=x
   simp only at q0 q1
   have HZ:=Lib.hid (cfI_zero x1 x2 a t)
   clear hx hn
   have HDZ:=Lib.hid (show (cfI x1 x2 a t == 0)=decide (((a,t):Pp)∈l) from by
    rw [Bool.eq_iff_iff,beq_iff_eq,decide_eq_true_iff,HZ.out,HM2.out]
    constructor
    ·rintro ⟨rfl,rfl⟩; rfl
    ·intro e; exact Prod.mk.inj e)
   have hdr:=hold4c ⟨hB.out,z0,z1,q0,q1⟩ (show Below wr.heap.size wr wr.drew from (Below.refl _ _).drew)
   clear z0 z1 q0 q1 hB hK
   go_region_held3 (fun w'=>Below w.heap.size w w'∧w'.cell? ⟨w.heap.size,0,none⟩=some (.int .i64 a)∧w'.cell? ⟨w.heap.size,1,none⟩=some (.int .i64 t)∧w'.cell? ⟨b,o + i * 2,none⟩=some (.int .i64 x1)∧w'.cell? ⟨b,o + i * 2 + 1,none⟩=some (.int .i64 x2)) (first | exact hdr | assumption) (first | (go_at_call 42; (with_reducible refine (byPipe_any x1 x2 a t _).mono ?_); rintro e w2 ⟨rfl,hg2⟩; have hn:=hold4c hdr hg2.below; clear hg2))
   all_goals (go_wp2; go_ret2; exact ⟨i,HI.out,by rw [← HDZ.out]; rfl,hn.1⟩)
  ·have hl4:¬ (i:Int) < (l.length:Int):=by omega
   have HD:=Lib.hid (show decide (((a,t):Pp)∈l)=false from decide_eq_false fun h=>hn (HM.out.1 h).1)
   clear hn
   clear hK HB1
   go_quiet (fail)
   have HB2:=Lib.hid (below_drewN hB.out nq)
   clear hB
   go_wp2
   go_ret2
   exact ⟨i,HI.out,by rw [HD.out]; rfl,HB2.out⟩
end Go.Proofs.YteflhbfgpknabaaGreatDoor
namespace Go.Proofs.YteflhbfgpknabaaGreatDoor
open Go.RowKit Go.Shelf Go.Lib
theorem run_copyK {P:Program} (w:World) (dT sT ty elem:TypeId) (k b o dLen dCap:Nat) (a:Addr) (sLen sCap:Nat) (cs:List Value)
  (hu:P.underlying dT=some (.slice elem)) (hs:(P.info? elem).map (·.size)=some k) (hn:cs.length=Nat.min sLen dLen * k)
  (hsrc:∀ j v,cs[j]?=some v→w.cell? (a.add j)=some v) (hc:∀ j,j < cs.length→(w.cell? ⟨b,o + j,none⟩).isSome=true) (hf:∀ j,j < cs.length→w.frozen? ⟨b,o + j,none⟩=false) (h1:∀ v∈cs,v.oneCell'=true) :
  (Builtin.copy_ #[dT,sT] ty #[.slice (some ⟨b,o,none⟩) dLen dCap,.slice (some a) sLen sCap]).run P w = .ok (goInt (Nat.min sLen dLen)) (w.setCells b o cs):=by
 have hl:=run_loadCells_list (P:=P) w a cs hsrc
 have hst:=run_storeCells_cells (P:=P) b o cs 0 w (by simpa using hc) (by simpa using hf) h1
 cases hq:P.info? elem with
 | none=>simp [hq] at hs
 | some i =>
  have hi:i.size=k:=by simpa [hq] using hs
  simp [Builtin.copy_,run_underlying hu,Builtin.lenOf,Builtin.firstCells,sizeOf,typeInfo,hq,hi,← hn,hl,hst]
theorem step_copyK {P:Program} {ops:Array Oper} {o:Oper} {a:Act} {w:World} {K:Act→World→Prop} {Q:Exit→Act→World→Prop} {E:Prop}
  (hg:o.guard=none) (d x:Operand) (dT sT:TypeId) (hop:o.op=Op.call { callee:=Callee.builtin Builtin.copy,args:=#[d,x],argTypes:=#[dT,sT] })
  (v u:Value) (hd:a.eval d=v) (hx:a.eval x=u) {v':Value} {w':World} (hr:(Builtin.copy_ #[dT,sT] o.type #[v,u]).run P w = .ok v' w') (hK:K (a.put o.dst v') w') :
  if Region.wanted o (yielded ops a.tmps)=true then Oper.wp P o a w K Q else E:=by
 have hw:Region.wanted o (yielded ops a.tmps)=true:=by simp [Region.wanted,hg]
 rw [if_pos hw]
 unfold Oper.wp
 simp [execOp,hop,resolve,invoke,builtin,hd,hx,hr,Result.andThen]
 exact hK
theorem pp_one (l:List Pp):∀ u∈(l.map ppC).flatten,u.oneCell'=true:=by
 intro u hu
 obtain ⟨r,hr,hu⟩:=List.mem_flatten.1 hu
 obtain ⟨p,_,rfl⟩:=List.mem_map.1 hr
 simp only [ppC,List.mem_cons,List.not_mem_nil,or_false] at hu
 rcases hu with rfl | rfl <;> rfl
def InP (base:Nat) (u:Value) (l:List Pp) (w:World) (e:Ending) (w':World):Prop:=∃ u',e = .returned u'∧w'.ownsRow base 78 2 u' l.length (l.map ppC).flatten∧w.grownBy w' u.ownBlock
set_option maxRecDepth 100000 in
set_option maxHeartbeats 3200000 in
theorem insertP_end (qs ms:List Pp) (hl:qs.length + ms.length≤40000) (hm:0 < ms.length) (base:Nat) (a b:Option Addr) (c d:Nat) (w:World) (hbase:base≤w.heap.size)
  (hu:w.ownsRow base 78 2 (.slice a qs.length c) qs.length (qs.map ppC).flatten) (_hnc:qs.length≤c)
  (hv:w.ownsRow base 78 2 (.slice b ms.length d) ms.length (ms.map ppC).flatten) :
  Calls Tryz.prog 79 #[.slice a qs.length c,.int .i64 qs.length,.slice b ms.length d] w (InP base (.slice a qs.length c) (qs ++ ms) w):=by
 obtain ⟨i0,hi0,hz0,hz1,hz2⟩:=info_parts pp_info
 obtain ⟨g2,cap2,e2,_,_⟩:=hv.form hm
 simp only [Value.slice.injEq] at e2
 obtain ⟨rfl,-,rfl⟩:=e2
 have hvc:∀ j v,((ms.map ppC).flatten)[j]?=some v→w.cell? ((⟨g2,0,none⟩:Addr).add j)=some v:=hv.cells rfl
 have hvl:((ms.map ppC).flatten).length=ms.length * 2:=hv.1
 obtain ⟨n,hn⟩:∃ n,qs.length=n:=⟨_,rfl⟩
 obtain ⟨m,hmm⟩:∃ m,ms.length=m:=⟨_,rfl⟩
 have HE:=Lib.hid (show (qs ++ ms).length=n + m by rw [List.length_append,hn,hmm])
 have HF:=Lib.hid (show ((qs ++ ms).map ppC).flatten=(qs.map ppC).flatten ++ (ms.map ppC).flatten by rw [List.map_append,List.flatten_append])
 rw [hn] at hu hl _hnc ⊢
 rw [hmm] at hv hl hm hvl ⊢
 have hm0:¬ ((m:Int)=0):=by omega
 have hm1:((m:Int) == 0)=false:=by rw [beq_eq_false_iff_ne]; exact hm0
 have HU:=Lib.hid hu
 have HVC:=Lib.hid hvc
 have HVL:=Lib.hid hvl
 clear hv hn hmm hu hvc hvl
 go_enter Tryz.func79,Tryz.ntmps79
 go_wp2_with (at_builtin; refine wpList_append_own _ rfl _ _ 50 rfl base 78 i0 _ 2 16 Tryz.underlying50 hi0 hz0 hz1 hz2 rfl (by omega) (.slice a n c) _ _ rfl HU.out ⟨g2,0,none⟩ m _ ((ms.map ppC).flatten) rfl HVL.out HVC.out (pp_one ms) (by unfold maxLen; omega) (by omega) hbase ?_; intro v' w1 hown' hgrow _)
 all_goals (go_ret; exact ⟨_,rfl,by rw [HE.out,HF.out]; exact hown',by cases a <;> exact hgrow⟩)
end Go.Proofs.YteflhbfgpknabaaGreatDoor
namespace Go.Proofs.YteflhbfgpknabaaGreatDoor
open Go.RowKit Go.Shelf Go.Lib
set_option maxRecDepth 100000 in
set_option maxHeartbeats 6400000 in
theorem insertP_shift (g n c i vb vc:Nat) (cs vs:List Value) (w:World) (hi:i < n) (hroom:n + 1≤c) (hc63:c≤9223372036854775807) (hvb:vb≠g)
  (hcl:cs.length=n * 2) (hvl:vs.length=2)
  (hcs:∀ j v,cs[j]?=some v→w.cell? ⟨g,j,none⟩=some v) (hsp:∀ j,j < (n + 1) * 2→(w.cell? ⟨g,j,none⟩).isSome=true) (hfz:∀ j,j < (n + 1) * 2→w.frozen? ⟨g,j,none⟩=false)
  (hvs:∀ j v,vs[j]?=some v→w.cell? ⟨vb,j,none⟩=some v) (h1c:∀ v∈cs,v.oneCell'=true) (h1v:∀ v∈vs,v.oneCell'=true)
  (tA tB:TypeId) (kA kB:Nat) (hsa:w.shape? vb=some (tA,kA)) (hsb:w.shape? g=some (tB,kB)) (hkB:kB≠0) (hfa:w.frozen? ⟨vb,0,none⟩=false) (hfe:w.frozen? ⟨vb,kA,none⟩=false) :
  Calls Tryz.prog 79 #[.slice (some ⟨g,0,none⟩) n c,.int .i64 i,.slice (some ⟨vb,0,none⟩) 1 vc] w fun e w' =>
   e = .returned (.slice (some ⟨g,0,none⟩) (n + 1) c)∧w'=(w.drew.setCells g ((i + 1) * 2) (cs.drop (i * 2))).setCells g (i * 2) vs:=by
 have hz2:¬ ((i:Int)=(n:Int)):=by omega
 have hsz:(Tryz.prog.info? 78).map (·.size)=some 2:=by kernel_rfl
 have hov:∀ o lb cb,(callFunc 118 #[.slice (some ⟨vb,0,none⟩) 1 vc,.slice (some ⟨g,o,none⟩) lb cb]).run Tryz.prog w = .ok (.value (.bool false)) w:=fun o lb cb=>by
  rw [run_callFunc_extern Tryz.func118 (by kernel_rfl) (by kernel_rfl) (by kernel_rfl) (e:=Extern.SlicesOverlaps.overlaps #[50,50] #[4]) (by kernel_rfl),
   Lib.run_overlaps_apart w 50 4 78 Tryz.underlying50 2 Tryz.sizeOf78 ⟨vb,0,none⟩ ⟨g,o,none⟩ 1 vc lb cb hvb tA tB kA kB hsa hsb hkB hfa hfe]
  rfl
 have hdl:(cs.drop (i * 2)).length=(n - i) * 2:=by rw [List.length_drop,hcl]; omega
 have hw1:IntKind.i64.wrap ((i:Int) + 1)=(i:Int) + 1:=by rw [IntKind.wrap_i64]; omega
 have hw2:IntKind.i64.wrap ((n:Int) + 1)=(n:Int) + 1:=by rw [IntKind.wrap_i64]; omega
 have hb1:(0:Int)≤(i:Int) + 1:=by omega
 have mixed:Tryz.prog.follows .mixedOrders=true:=by kernel_rfl
 have hin:i≤n:=by omega
 have hb2:¬ (c=i + 1):=by omega
 have hb3:(i:Int)≤(n:Int) + 1:=by omega
 have hb4:¬ (c=i):=by omega
 have hb5:i≤n + 1:=by omega
 have htn:((i:Int) + 1).toNat=i + 1:=by omega
 have htn2:((n:Int) + 1).toNat=n + 1:=by omega
 have hcp1:∀ ty dc sc,(Builtin.copy_ #[50,50] ty #[.slice (some ⟨g,(i + 1) * 2,none⟩) (n - i) dc,.slice (some ⟨g,i * 2,none⟩) (n + 1 - i) sc]).run Tryz.prog w.drew = .ok (goInt (Nat.min (n + 1 - i) (n - i))) (w.drew.setCells g ((i + 1) * 2) (cs.drop (i * 2))):=fun ty dc sc =>
  run_copyK w.drew _ _ ty 78 2 g ((i + 1) * 2) (n - i) dc ⟨g,i * 2,none⟩ (n + 1 - i) sc (cs.drop (i * 2)) Tryz.underlying50 hsz (by rw [hdl]; simp only [Nat.min_def]; split <;> omega)
   (fun j v hj=>by rw [Addr.add_lit]; exact hcs (i * 2 + j) v (by rwa [List.getElem?_drop] at hj))
   (fun j hj=>hsp _ (by omega)) (fun j hj=>hfz _ (by omega)) (fun v hv=>h1c v (List.mem_of_mem_drop hv))
 obtain ⟨W1,hW1⟩:∃ W1,W1=w.drew.setCells g ((i + 1) * 2) (cs.drop (i * 2)):=⟨_,rfl⟩
 have hsp1:∀ k,k < (n + 1) * 2→(W1.cell? ⟨g,k,none⟩).isSome=true:=fun k hk=>by
  rw [hW1]
  exact isSome_setCells g (cs.drop (i * 2)) ((i + 1) * 2) w.drew (fun j hj=>hsp _ (by omega)) _ (hsp k hk)
 have hcp2:∀ (W:World),(∀ x,W.cell? x=W1.cell? x)→(∀ x,W.frozen? x=W1.frozen? x)→∀ ty dc,(Builtin.copy_ #[50,50] ty #[.slice (some ⟨g,i * 2,none⟩) (n + 1 - i) dc,.slice (some ⟨vb,0,none⟩) 1 vc]).run Tryz.prog W = .ok (goInt (Nat.min 1 (n + 1 - i))) (W.setCells g (i * 2) vs):=fun W hWc hWf ty dc =>
  run_copyK W _ _ ty 78 2 g (i * 2) (n + 1 - i) dc ⟨vb,0,none⟩ 1 vc vs Tryz.underlying50 hsz (by rw [hvl]; simp only [Nat.min_def]; split <;> omega)
   (fun j v hj=>by
    rw [Addr.add_lit,hWc,hW1,World.cell?_setCells_out g _ _ _ _ (fun h _=>absurd h hvb),Nat.zero_add]
    exact hvs j v hj)
   (fun j hj=>by rw [hWc]; exact hsp1 _ (by omega)) (fun j hj=>by rw [hWf,hW1,World.frozen?_setCells]; exact hfz _ (by omega)) h1v
 rw [← hW1] at hcp1
 go_enter Tryz.func79,Tryz.ntmps79
 go_wp2_with (simp only [hov])
 go_region_law_o (refine step_copyK rfl _ _ 50 50 rfl (.slice (some ⟨g,(i + 1) * 2,none⟩) (n - i) (c - (i + 1))) (.slice (some ⟨g,i * 2,none⟩) (n + 1 - i) (c - i)) (by simp [Act.eval,Act.put]) (by simp [Act.eval,Act.put]) (hcp1 _ _ _) ?_)
 all_goals go_wp2_with (at_builtin; refine wpList_copyK _ rfl _ _ 50 50 rfl _ _ rfl rfl (hcp2 _ (fun _=>rfl) (fun _=>rfl) _ _) ?_)
 all_goals go_ret
 all_goals first | exact ⟨rfl,rfl⟩ | exact ⟨rfl,by rw [hW1]⟩
end Go.Proofs.YteflhbfgpknabaaGreatDoor
namespace Go.Proofs.YteflhbfgpknabaaGreatDoor
open Go.RowKit Go.Shelf Go.Lib
theorem pp_flat_take (qs:List Pp) (i:Nat) (h:i≤qs.length):((qs.map ppC).flatten).take (i * 2)=((qs.take i).map ppC).flatten:=by
 induction qs generalizing i with
 | nil=>simp
 | cons a l ih =>
  cases i with
  | zero=>simp
  | succ i =>
   rw [List.map_cons,List.flatten_cons,List.take_succ_cons,List.map_cons,List.flatten_cons,← ih i (by simpa using h)]
   rw [show (i + 1) * 2=(ppC a).length + i * 2 by simp [ppC]; omega,List.take_length_add_append]
theorem pp_flat_drop (qs:List Pp) (i:Nat) (h:i≤qs.length):((qs.map ppC).flatten).drop (i * 2)=((qs.drop i).map ppC).flatten:=by
 induction qs generalizing i with
 | nil=>simp
 | cons a l ih =>
  cases i with
  | zero=>simp
  | succ i =>
   rw [List.map_cons,List.flatten_cons,List.drop_succ_cons,← ih i (by simpa using h)]
   rw [show (i + 1) * 2=(ppC a).length + i * 2 by simp [ppC]; omega,List.drop_length_add_append]
set_option maxRecDepth 100000 in
set_option maxHeartbeats 6400000 in
theorem insertP_grow (qs ms:List Pp) (hl:qs.length + ms.length≤40000) (hm:0 < ms.length) (base i:Nat) (hi:i < qs.length) (a b:Option Addr) (d:Nat) (w:World) (hbase:base≤w.heap.size)
  (hu:w.ownsRow base 78 2 (.slice a qs.length qs.length) qs.length (qs.map ppC).flatten)
  (hv:w.ownsRow base 78 2 (.slice b ms.length d) ms.length (ms.map ppC).flatten) :
  Calls Tryz.prog 79 #[.slice a qs.length qs.length,.int .i64 i,.slice b ms.length d] w (InP base (.slice a qs.length qs.length) (qs.take i ++ (ms ++ qs.drop i)) w):=by
 obtain ⟨i0,hi0,hz0,hz1,hz2⟩:=info_parts pp_info
 obtain ⟨g1,cap1,e1,_,hg1⟩:=hu.form (by omega)
 simp only [Value.slice.injEq] at e1
 obtain ⟨rfl,-,rfl⟩:=e1
 obtain ⟨g2,cap2,e2,_,hg2⟩:=hv.form hm
 simp only [Value.slice.injEq] at e2
 obtain ⟨rfl,-,rfl⟩:=e2
 have hcs:∀ j v,((qs.map ppC).flatten)[j]?=some v→w.cell? ⟨g1,j,none⟩=some v:=fun j v hj=>by have:=hu.cells (g:=g1) rfl j v hj; rwa [Addr.add_lit,Nat.zero_add] at this
 have hvs:∀ j v,((ms.map ppC).flatten)[j]?=some v→w.cell? ⟨g2,j,none⟩=some v:=fun j v hj=>by have:=hv.cells (g:=g2) rfl j v hj; rwa [Addr.add_lit,Nat.zero_add] at this
 have hql:((qs.map ppC).flatten).length=qs.length * 2:=hu.1
 have hvl:((ms.map ppC).flatten).length=ms.length * 2:=hv.1
 obtain ⟨n,hn⟩:∃ n,qs.length=n:=⟨_,rfl⟩
 obtain ⟨m,hmm⟩:∃ m,ms.length=m:=⟨_,rfl⟩
 obtain ⟨CS,hCS⟩:∃ CS,(qs.map ppC).flatten=CS:=⟨_,rfl⟩
 obtain ⟨VS,hVS⟩:∃ VS,(ms.map ppC).flatten=VS:=⟨_,rfl⟩
 have h1c:∀ v∈CS,v.oneCell'=true:=by rw [← hCS]; exact pp_one qs
 have h1v:∀ v∈VS,v.oneCell'=true:=by rw [← hVS]; exact pp_one ms
 have HEL:=Lib.hid (show (qs.take i ++ (ms ++ qs.drop i)).length=n + m by rw [List.length_append,List.length_append,List.length_take,List.length_drop]; omega)
 have HEF:=Lib.hid (show ((qs.take i ++ (ms ++ qs.drop i)).map ppC).flatten=CS.take (i * 2) ++ VS ++ CS.drop (i * 2) by
  rw [List.map_append,List.map_append,List.flatten_append,List.flatten_append,← pp_flat_take qs i (by omega),← pp_flat_drop qs i (by omega),hCS,hVS,List.append_assoc])
 rw [hCS] at hcs hql
 rw [hVS] at hvs hvl
 rw [hn] at hl hi hql ⊢
 rw [hmm] at hl hm hvl ⊢
 clear hu hv hCS hVS hn hmm
 have hm1:((m:Int) == 0)=false:=by rw [beq_eq_false_iff_ne]; omega
 have hm2:¬ ((m:Int)=0):=by omega
 have hi1:((i:Int) == (n:Int))=false:=by rw [beq_eq_false_iff_ne]; omega
 have hi2:¬ ((i:Int)=(n:Int)):=by omega
 have hi3:(i:Int)≤(n:Int):=by omega
 have hz3:(n:Int) < (n:Int) + (m:Int):=by omega
 have hsz:(Tryz.prog.info? 78).map (·.size)=some 2:=by rw [hi0]; simp [hz1]
 have hkk:(n:Int) + (m:Int) - (i:Int)=((n + m - i:Nat):Int):=by omega
 have hik:i + (n + m - i)=n + m:=by omega
 have htl:(CS.take (i * 2)).length=i * 2:=by rw [List.length_take]; omega
 have hdl:(CS.drop (i * 2)).length=(n - i) * 2:=by rw [List.length_drop,hql]; omega
 have hold:(Builtin.firstCells i0.size i (.slice (some ⟨g1,0,none⟩) i n)).run Tryz.prog w.drew = .ok (CS.take (i * 2)).toArray w.drew:=by
  rw [hz1]
  exact run_firstCells_some w.drew 2 i ⟨g1,0,none⟩ i n (CS.take (i * 2)) htl (fun j v hj=>by
   rw [Addr.add_lit,Nat.zero_add]
   rw [List.getElem?_take] at hj
   split at hj
   ·exact hcs j v hj
   ·cases hj)
 have hrz:∀ ty,(Builtin.append_ #[50,3] ty #[.slice (some ⟨g1,0,none⟩) i n,.int .i64 ((n:Int) + (m:Int) - (i:Int))]).run Tryz.prog w =
   .ok (.slice (some ⟨w.heap.size,0,none⟩) (n + m) (grownCap w (n + m) n 78)) (w.drew.alloc (.cells ((CS.take (i * 2)).toArray ++ Builtin.zeroCells (Value.agg #[.int .i64 0,.int .i64 0]).cells (n + m - i) ++ Builtin.zeroCells (Value.agg #[.int .i64 0,.int .i64 0]).cells (grownCap w (n + m) n 78 - (n + m))) 78)):=fun ty=>by
  have h:=run_append_grow_zeros w 50 3 ty 78 i0 _ .i64 .i64 Tryz.underlying50 Tryz.underlying3 hi0 hz0 (some ⟨g1,0,none⟩) i n (CS.take (i * 2)) hold (n + m - i) (by omega) (by omega) (by omega) (by omega) (by rw [hz2]; omega) (by rw [hz2,hik]; exact growslice_fits (by omega) (by omega))
  rw [hik] at h
  rw [hkk]
  exact h
 have hGn:=grownCap_ge w (n + m) n 78
 have hGm:=grownCap_le_maxLen w (n + m) n 78 (by unfold maxLen; omega)
 obtain ⟨G,hG⟩:∃ G,G=grownCap w (n + m) n 78:=⟨_,rfl⟩
 obtain ⟨Z1,hZ1⟩:∃ Z1:Array Value,Z1=Builtin.zeroCells (Value.agg #[.int .i64 0,.int .i64 0]).cells (n + m - i):=⟨_,rfl⟩
 obtain ⟨Z2,hZ2⟩:∃ Z2:Array Value,Z2=Builtin.zeroCells (Value.agg #[.int .i64 0,.int .i64 0]).cells (G - (n + m)):=⟨_,rfl⟩
 rw [← hG] at hrz hGn hGm
 have hz1l:Z1.size=(n + m - i) * 2:=by rw [hZ1,size_zeroCells]; rfl
 have hz2l:Z2.size=(G - (n + m)) * 2:=by rw [hZ2,size_zeroCells]; rfl
 rw [← hZ1,← hZ2] at hrz
 obtain ⟨ROW,hROW⟩:∃ ROW:Array Value,ROW=(CS.take (i * 2)).toArray ++ Z1 ++ Z2:=⟨_,rfl⟩
 rw [← hROW] at hrz
 have hRs:ROW.size=G * 2:=by
  rw [hROW,Array.size_append,Array.size_append,List.size_toArray,htl,hz1l,hz2l]
  omega
 have hRt:ROW.toList.take (i * 2)=CS.take (i * 2):=by
  rw [hROW,Array.toList_append,Array.toList_append,List.append_assoc,List.take_append_of_le_length (by rw [htl]; exact Nat.le_refl _),List.take_of_length_le (by rw [htl]; exact Nat.le_refl _)]
 clear hG hZ1 hZ2 hz1l hz2l hROW
 obtain ⟨W1,hW1⟩:∃ W1,W1=(w.alloc (.cells ROW 78)).drew:=⟨_,rfl⟩
 have hk1:Blk W1 w.heap.size 78 ROW:=by rw [hW1]; exact Blk.new w _ _
 have hbl:Below w.heap.size w W1:=by rw [hW1]; exact ((Below.refl _ _).alloc (Nat.le_refl _) _).drew
 have hk2:=blk_put VS (i * 2) W1 ROW hk1 (by rw [hRs,hvl]; omega)
 have hk3:=blk_put (CS.drop (i * 2)) ((i + m) * 2) (W1.setCells w.heap.size (i * 2) VS).drew _ hk2 (by simp [hdl,hvl,hRs]; omega)
 have hsz1:W1.heap.size=w.heap.size + 1:=by rw [hW1]; simp
 have hN:∀ j,j < (n + m) * 2→(W1.cell? ⟨w.heap.size,j,none⟩).isSome=true:=fun j hj=>by
  rw [hk1.cell,Array.getElem?_eq_getElem (by omega)]; rfl
 have hNf:∀ j,W1.frozen? ⟨w.heap.size,j,none⟩=false:=fun j=>hk1.frozen j
 have hOb:∀ j v,CS[j]?=some v→W1.cell? ⟨g1,j,none⟩=some v:=fun j v h=>(hbl.cell (p:=⟨g1,j,none⟩) hg1).trans (hcs j v h)
 have hOv:∀ j v,VS[j]?=some v→W1.cell? ⟨g2,j,none⟩=some v:=fun j v h=>(hbl.cell (p:=⟨g2,j,none⟩) hg2).trans (hvs j v h)
 have hbN:g1≠w.heap.size:=by omega
 have hmin1:Nat.min m (n + m - i)=m:=Nat.min_eq_left (by omega)
 have hmin2:Nat.min (n - i) (n + m - (i + m))=n - i:=Nat.min_eq_left (by omega)
 have hcpA:∀ (W:World),(∀ x,W.cell? x=W1.cell? x)→(∀ x,W.frozen? x=W1.frozen? x)→∀ ty dc,(Builtin.copy_ #[50,50] ty #[.slice (some ⟨w.heap.size,i * 2,none⟩) (n + m - i) dc,.slice (some ⟨g2,0,none⟩) m d]).run Tryz.prog W = .ok (goInt m) (W.setCells w.heap.size (i * 2) VS):=fun W hWc hWf ty dc=>by
  have h:=run_copyK (P:=Tryz.prog) W 50 50 ty 78 2 w.heap.size (i * 2) (n + m - i) dc ⟨g2,0,none⟩ m d VS Tryz.underlying50 hsz (by rw [hmin1,hvl])
   (fun j v hj=>by rw [Addr.add_lit,Nat.zero_add,hWc]; exact hOv _ v hj)
   (fun j hj=>by rw [hWc]; exact hN _ (by omega)) (fun j hj=>by rw [hWf]; exact hNf _) h1v
  rwa [hmin1] at h
 have hcpB:∀ (W:World),(∀ x,W.cell? x=(W1.setCells w.heap.size (i * 2) VS).cell? x)→(∀ x,W.frozen? x=(W1.setCells w.heap.size (i * 2) VS).frozen? x)→∀ ty dc sc,(Builtin.copy_ #[50,50] ty #[.slice (some ⟨w.heap.size,(i + m) * 2,none⟩) (n + m - (i + m)) dc,.slice (some ⟨g1,i * 2,none⟩) (n - i) sc]).run Tryz.prog W = .ok (goInt ((n - i:Nat):Int)) (W.setCells w.heap.size ((i + m) * 2) (CS.drop (i * 2))):=fun W hWc hWf ty dc sc=>by
  have h:=run_copyK (P:=Tryz.prog) W 50 50 ty 78 2 w.heap.size ((i + m) * 2) (n + m - (i + m)) dc ⟨g1,i * 2,none⟩ (n - i) sc (CS.drop (i * 2)) Tryz.underlying50 hsz (by rw [hmin2,hdl])
   (fun j v hj=>by
    rw [Addr.add_lit,hWc,World.cell?_setCells_out _ _ _ _ _ (fun h _=>absurd h hbN)]
    exact hOb _ v (by rwa [List.getElem?_drop] at hj))
   (fun j hj=>by rw [hWc,hk2.cell,Array.getElem?_eq_getElem (by simp [hvl,hRs]; omega)]; rfl)
   (fun j hj=>by rw [hWf,World.frozen?_setCells]; exact hNf _) (fun v hv=>h1c v (List.mem_of_mem_drop hv))
  rwa [hmin2] at h
 have hfin:∀ (W':World),W'=(W1.setCells w.heap.size (i * 2) VS).drew.setCells w.heap.size ((i + m) * 2) (CS.drop (i * 2))→InP base (.slice (some ⟨g1,0,none⟩) n n) (qs.take i ++ (ms ++ qs.drop i)) w (.returned (.slice (some ⟨w.heap.size,0,none⟩) (n + m) G)) W':=fun W' e=>by
  subst e
  refine ⟨_,rfl,?_,?_⟩
  ·rw [HEL.out,HEF.out]
   refine ⟨?_,.inr ⟨w.heap.size,G,_,rfl,hbase,hk3,hGn,hGm,?_,?_⟩⟩
   ·rw [List.length_append,List.length_append,htl,hvl,hdl]; omega
   ·simp [hdl,hvl,hRs]; omega
   ·have e1:ROW.toList.take (i * 2) ++ VS=CS.take (i * 2) ++ VS:=by rw [hRt]
    have e2:(CS.take (i * 2) ++ VS).length=(i + m) * 2:=by rw [List.length_append,htl,hvl]; omega
    simp only [e1]
    rw [List.take_left' e2,List.take_left' (by rw [List.length_append,e2,hdl]; omega)]
  ·have h1:=(grown_cells w.heap.size VS (i * 2) W1).trans (show (W1.setCells w.heap.size (i * 2) VS).grownBy (W1.setCells w.heap.size (i * 2) VS).drew (some w.heap.size) from ⟨rfl,rfl,rfl,Nat.le_refl _,fun _ _ _=>rfl⟩)
   have h2:=h1.trans (grown_cells w.heap.size (CS.drop (i * 2)) ((i + m) * 2) _)
   exact ⟨h2.os.trans hbl.os,h2.tape.trans hbl.tape,h2.output.trans hbl.output,Nat.le_trans hbl.size h2.size,fun k hk _=>(h2.block k (by omega) (by simp; omega)).trans (hbl.block k hk)⟩
 clear hk1 hk2 hk3
 subst hW1
 have hF1:∀ x,(((w.alloc (.cells ROW 78)).drew.setCells w.heap.size (i * 2) VS).drew).cell? x=((w.alloc (.cells ROW 78)).drew.setCells w.heap.size (i * 2) VS).cell? x:=fun x=>rfl
 have hF2:∀ x,(((w.alloc (.cells ROW 78)).drew.setCells w.heap.size (i * 2) VS).drew).frozen? x=((w.alloc (.cells ROW 78)).drew.setCells w.heap.size (i * 2) VS).frozen? x:=fun x=>rfl
 have hmx:Tryz.prog.follows .mixedOrders=true:=by kernel_rfl
 have hb1:(0:Int)≤(i:Int) + (m:Int):=by omega
 have hb4:((i:Int) + (m:Int))≤(n:Int) + (m:Int):=by omega
 have hin:i≤n:=by omega
 have htn:((i:Int) + (m:Int)).toNat=i + m:=by omega
 have hw1:IntKind.i64.wrap ((i:Int) + (m:Int))=(i:Int) + (m:Int):=by rw [IntKind.wrap_i64]; omega
 have hG63:G≤9223372036854775807:=by unfold maxLen at hGm; omega
 have hGi:¬ (G=i):=by omega
 have hGim:¬ (G=i + m):=by omega
 have hci:¬ (n=i):=by omega
 have HFIN:=Lib.hid hfin
 clear hfin hkk hik hold hRs hRt HEL HEF hN hNf hOb hOv htl hdl hcs hvs h1c h1v hvl hql
 go_enter Tryz.func79,Tryz.ntmps79
 have hE1:∀ x,(w.drew.alloc (.cells ROW 78)).cell? x=((w.alloc (.cells ROW 78)).drew).cell? x:=fun x=>rfl
 have hE2:∀ x,(w.drew.alloc (.cells ROW 78)).frozen? x=((w.alloc (.cells ROW 78)).drew).frozen? x:=fun x=>rfl
 have hE3:∀ x,((w.alloc (.cells ROW 78)).drew).cell? x=((w.alloc (.cells ROW 78)).drew).cell? x:=fun x=>rfl
 have hE4:∀ x,((w.alloc (.cells ROW 78)).drew).frozen? x=((w.alloc (.cells ROW 78)).drew).frozen? x:=fun x=>rfl
 go_upto_region 10 with (at_builtin; refine Lib.wpList_append_run _ rfl _ _ _ _ rfl _ _ rfl rfl _ _ (hrz _) ?_)
 have hA:=hcpA (w.alloc (.cells ROW 78)).drew hE3 hE4
 go_wp2
 go_region_law_o (refine step_copyK rfl _ _ 50 50 rfl (.slice (some ⟨w.heap.size,(i + m) * 2,none⟩) (n + m - (i + m)) (G - (i + m))) (.slice (some ⟨g1,i * 2,none⟩) (n - i) (n - i)) (by simp [Act.eval,Act.put]) (by simp [Act.eval,Act.put]) (hcpB _ hF1 hF2 3 (G - (i + m)) (n - i)) ?_)
 all_goals go_wp2
 go_ret
 exact HFIN.out _ rfl
theorem shape_blk {W:World} {B:Nat} {t:TypeId} {cs:Array Value} (h:Blk W B t cs):W.shape? B=some (t,cs.size):=by
 unfold World.shape?
 rw [show W.heap[B]?=_ from h]
theorem insertP_any (qs:List Pp) (hl:qs.length≤20000) (base i:Nat) (hi:i≤qs.length) (u:Value) (p:Pp) (B:Nat) (w:World) (hbase:base≤w.heap.size) (hB:Blk w B 78 #[.int .i64 p.1,.int .i64 p.2]) (hbB:base≤B) (hne:u.ownBlock≠some B)
  (hu:w.ownsRow base 78 2 u qs.length (qs.map ppC).flatten) :
  Calls Tryz.prog 79 #[u,.int .i64 i,.slice (some ⟨B,0,none⟩) 1 1] w (InP base u (qs.take i ++ (p :: qs.drop i)) w):=by
 have hv:w.ownsRow base 78 2 (.slice (some ⟨B,0,none⟩) [p].length 1) [p].length (([p]:List Pp).map ppC).flatten :=
  ⟨by simp [ppC],.inr ⟨B,1,_,rfl,hbB,hB,Nat.le_refl _,by unfold maxLen; omega,rfl,rfl⟩⟩
 obtain ⟨a,c,rfl⟩:∃ a c,u = .slice a qs.length c:=own_form hu
 by_cases hin:i=qs.length
 ·subst hin
  have h:=insertP_end qs [p] (by simp; omega) (by simp) base a (some ⟨B,0,none⟩) c 1 w hbase hu (by
   rcases hu.2 with ⟨e,h0⟩ | ⟨g,cap,cur,e,_,_,hc,_⟩
   ·omega
   ·simp only [Value.slice.injEq] at e
    omega) hv
  rw [List.take_length,List.drop_length]
  exact h
 have hi2:i < qs.length:=by omega
 rcases hu.2 with ⟨e,h0⟩ | ⟨g,cap,cur,e,hbg,hg,hcap,hmx,hsz,hxs⟩
 ·omega
 simp only [Value.slice.injEq] at e
 obtain ⟨rfl,-,rfl⟩:=e
 by_cases hroom:qs.length + 1≤c
 ·have hgB:B≠g:=fun e=>hne (by rw [e]; rfl)
  have hfl:(qs.map ppC).flatten.length=qs.length * 2:=hu.1
  have hcells:∀ j v,((qs.map ppC).flatten)[j]?=some v→w.cell? ⟨g,j,none⟩=some v:=fun j v hj=>by
   have hlt:=(List.getElem?_eq_some_iff.1 hj).1
   rw [← hxs,List.getElem?_take,if_pos (by omega),Array.getElem?_toList] at hj
   exact (Blk.cell hg j).trans hj
  have h:=insertP_shift g qs.length c i B 1 (qs.map ppC).flatten [.int .i64 p.1,.int .i64 p.2] w hi2 hroom (by unfold maxLen at hmx; omega) hgB hfl rfl hcells
   (fun j hj=>by rw [show w.cell? ⟨g,j,none⟩=cur[j]? from Blk.cell hg j,Array.getElem?_eq_getElem (by omega)]; rfl) (fun j _=>Blk.frozen hg j)
   (fun j v hj=>by rw [show w.cell? ⟨B,j,none⟩=_ from hB.cell j]; simpa using hj) (pp_one qs) (fun v hv=>by simp at hv; rcases hv with rfl | rfl <;> rfl)
   _ _ 2 cur.size (shape_blk hB) (shape_blk hg) (by omega) (hB.frozen _) (hB.frozen _)
  refine h.mono ?_
  rintro e w' ⟨rfl,rfl⟩
  have hd:Blk w.drew g 78 cur:=hg
  have hfd:((qs.map ppC).flatten.drop (i * 2)).length=(qs.length - i) * 2:=by rw [List.length_drop,hfl]; omega
  have k1:=blk_put ((qs.map ppC).flatten.drop (i * 2)) ((i + 1) * 2) w.drew cur hd (by rw [hfd]; omega)
  have k2:=blk_put [.int .i64 p.1,.int .i64 p.2] (i * 2) _ _ k1 (by simp; omega)
  have hL:(qs.take i ++ (p :: qs.drop i)).length=qs.length + 1:=by rw [List.length_append,List.length_cons,List.length_take,List.length_drop]; omega
  have hFL:(qs.map ppC).flatten.take (i * 2) ++ [.int .i64 p.1,.int .i64 p.2] ++ (qs.map ppC).flatten.drop (i * 2)=((qs.take i ++ (p :: qs.drop i)).map ppC).flatten:=by
   rw [pp_flat_take qs i hi,pp_flat_drop qs i hi,List.map_append,List.flatten_append,List.map_cons,List.flatten_cons,List.append_assoc]
   rfl
  have hAl:((qs.map ppC).flatten.take (i * 2)).length=i * 2:=by rw [List.length_take,hfl]; omega
  have hLf:(((qs.take i ++ (p :: qs.drop i)).map ppC).flatten).length=(qs.take i ++ (p :: qs.drop i)).length * 2:=by
   rw [← hFL,List.length_append,List.length_append,hAl,hfd,hL]
   simp only [List.length_cons,List.length_nil]
   omega
  have hC1a:(cur.toList.take ((i + 1) * 2) ++ (qs.map ppC).flatten.drop (i * 2) ++ cur.toList.drop ((i + 1) * 2 + ((qs.map ppC).flatten.drop (i * 2)).length)).take (i * 2)=(qs.map ppC).flatten.take (i * 2):=by
   rw [List.append_assoc,List.take_append_of_le_length (by rw [List.length_take,Array.length_toList]; omega),List.take_take,← hxs,List.take_take]
   congr 1
   omega
  have hC1b:(cur.toList.take ((i + 1) * 2) ++ (qs.map ppC).flatten.drop (i * 2) ++ cur.toList.drop ((i + 1) * 2 + ((qs.map ppC).flatten.drop (i * 2)).length)).drop (i * 2 + ([.int .i64 p.1,.int .i64 p.2]:List Value).length)=(qs.map ppC).flatten.drop (i * 2) ++ cur.toList.drop ((i + 1) * 2 + ((qs.map ppC).flatten.drop (i * 2)).length):=by
   rw [List.append_assoc]
   refine List.drop_left' ?_
   rw [List.length_take,Array.length_toList]
   simp only [List.length_cons,List.length_nil]
   omega
  simp only at k2
  rw [hC1a,hC1b] at k2
  refine ⟨_,rfl,⟨?_,.inr ⟨g,c,_,?_,hbg,k2,?_,hmx,?_,?_⟩⟩,?_⟩
  ·exact hLf
  ·rw [hL]
  ·rw [hL]; exact hroom
  ·rw [List.size_toArray,List.length_append,List.length_append,List.length_append,hAl,hfd]
   simp only [List.length_cons,List.length_nil,List.length_drop,Array.length_toList]
   omega
  ·rw [List.toList_toArray,hL,← hFL,← List.append_assoc]
   refine List.take_left' ?_
   rw [List.length_append,List.length_append,hAl,hfd]
   simp only [List.length_cons,List.length_nil]
   omega
  ·have hdg:w.grownBy w.drew (some g):=⟨rfl,rfl,rfl,Nat.le_refl _,fun _ _ _=>rfl⟩
   exact (hdg.trans (grown_cells g _ _ _)).trans (grown_cells g _ _ _)
 ·have hcn:c=qs.length:=by omega
  subst hcn
  exact insertP_grow qs [p] (by simp; omega) (by simp) base i hi2 (some ⟨g,0,none⟩) (some ⟨B,0,none⟩) 1 w hbase hu hv
end Go.Proofs.YteflhbfgpknabaaGreatDoor
namespace Go.Proofs.YteflhbfgpknabaaGreatDoor
open Go.RowKit Go.Shelf Go.Lib
theorem run_clearP (w:World) (ty:TypeId) (b o c:Nat) (hc:∀ j,j < 2→(w.cell? ⟨b,o + j,none⟩).isSome=true) (hf:∀ j,j < 2→w.frozen? ⟨b,o + j,none⟩=false) :
  (Builtin.clear_ #[50] ty #[.slice (some ⟨b,o,none⟩) 1 c]).run Tryz.prog w = .ok (.tuple #[]) (w.setCells b o [.int .i64 0,.int .i64 0]):=by
 have hst:=run_storeCells_cells (P:=Tryz.prog) b o [.int .i64 0,.int .i64 0] 0 w (by simpa using hc) (by simpa using hf) (by intro v hv; simp at hv; subst hv; rfl)
 have hz:∀ w,(zeroValue 78).run Tryz.prog w = .ok (.agg #[.int .i64 0,.int .i64 0]) w:=fun w=>by kernel_rfl
 have hzc:(Builtin.zeroCells (Value.agg #[Value.int IntKind.i64 0,Value.int IntKind.i64 0]).cells 1).toList=[.int .i64 0,.int .i64 0]:=by kernel_rfl
 simp only [Nat.add_zero] at hst
 simp [Builtin.clear_,run_underlying Tryz.underlying50,hz,hzc,hst]
theorem step_appR {P:Program} {ops:Array Oper} {o:Oper} {a:Act} {w:World} {K:Act→World→Prop} {Q:Exit→Act→World→Prop} {E:Prop}
  (hg:o.guard=none) (d x:Operand) (dT sT:TypeId) (hop:o.op=Op.call { callee:=Callee.builtin Builtin.append,args:=#[d,x],argTypes:=#[dT,sT] })
  (v u:Value) (hd:a.eval d=v) (hx:a.eval x=u) {v':Value} {w':World} (hr:(Builtin.append_ #[dT,sT] o.type #[v,u]).run P w = .ok v' w') (hK:K (a.put o.dst v') w') :
  if Region.wanted o (yielded ops a.tmps)=true then Oper.wp P o a w K Q else E:=by
 have hw:Region.wanted o (yielded ops a.tmps)=true:=by simp [Region.wanted,hg]
 rw [if_pos hw]
 unfold Oper.wp
 simp [execOp,hop,resolve,invoke,builtin,hd,hx,hr,Result.andThen]
 exact hK
set_option maxRecDepth 100000 in
set_option maxHeartbeats 6400000 in
theorem deleteP_any (qs:List Pp) (hl:qs.length≤20000) (base i:Nat) (hi:i < qs.length) (u:Value) (w:World) (hu:w.ownsRow base 78 2 u qs.length (qs.map ppC).flatten) :
  Calls Tryz.prog 80 #[u,.int .i64 i,.int .i64 ((i:Int) + 1)] w (InP base u (qs.take i ++ qs.drop (i + 1)) w):=by
 rcases hu.2 with ⟨e,h0⟩ | ⟨g,c,cur,rfl,hbg,hg,hcap,hmx,hsz,hxs⟩
 ·omega
 have hfl:(qs.map ppC).flatten.length=qs.length * 2:=hu.1
 have hL:(qs.take i ++ qs.drop (i + 1)).length=qs.length - 1:=by rw [List.length_append,List.length_take,List.length_drop]; omega
 have hFL:(qs.map ppC).flatten.take (i * 2) ++ (qs.map ppC).flatten.drop ((i + 1) * 2)=((qs.take i ++ qs.drop (i + 1)).map ppC).flatten:=by
  rw [pp_flat_take qs i (by omega),pp_flat_drop qs (i + 1) hi,List.map_append,List.flatten_append]
 obtain ⟨i0,hi0,hz0,hz1,hz2⟩:=info_parts pp_info
 have hcells:∀ j v,((qs.map ppC).flatten)[j]?=some v→w.cell? ⟨g,j,none⟩=some v:=fun j v hj=>by
  have hlt:=(List.getElem?_eq_some_iff.1 hj).1
  rw [← hxs,List.getElem?_take,if_pos (by omega),Array.getElem?_toList] at hj
  exact (Blk.cell hg j).trans hj
 obtain ⟨fl,hfle⟩:∃ fl,(qs.map ppC).flatten=fl:=⟨_,rfl⟩
 obtain ⟨n,hn⟩:∃ n,qs.length=n:=⟨_,rfl⟩
 have h1f:∀ v∈fl,v.oneCell'=true:=by rw [← hfle]; exact pp_one qs
 have HP:=Lib.hid (show ∀ w',Blk w' g 78 ((cur.toList.take (i * 2) ++ fl.drop ((i + 1) * 2) ++ cur.toList.drop (i * 2 + (fl.drop ((i + 1) * 2)).length)).toArray.toList.take ((n - 1) * 2) ++ ([Value.int .i64 0,Value.int .i64 0]:List Value) ++ (cur.toList.take (i * 2) ++ fl.drop ((i + 1) * 2) ++ cur.toList.drop (i * 2 + (fl.drop ((i + 1) * 2)).length)).toArray.toList.drop ((n - 1) * 2 + 2)).toArray→w.grownBy w' (some g)→InP base (.slice (some ⟨g,0,none⟩) n c) (qs.take i ++ qs.drop (i + 1)) w (.returned (.slice (some ⟨g,0,none⟩) (n - 1) c)) w' from by
  intro w' hk hgw
  have hAl:(fl.take (i * 2)).length=i * 2:=by rw [List.length_take,← hfle,hfl]; omega
  have hdl:(fl.drop ((i + 1) * 2)).length=(n - (i + 1)) * 2:=by rw [List.length_drop,← hfle,hfl]; omega
  have hct:cur.toList.take (i * 2)=fl.take (i * 2):=by
   rw [← hfle,← hxs,List.take_take]
   congr 1
   omega
  rw [hfle] at hFL
  rw [hn] at hL hcap hxs hi
  dsimp only at hk
  rw [hct] at hk
  refine ⟨_,rfl,⟨by rw [← hFL,List.length_append,hAl,hdl,hL]; omega,.inr ⟨g,c,_,by rw [hL],hbg,hk,by rw [hL]; omega,hmx,?_,?_⟩⟩,hgw⟩
  ·have hf2:fl.length=n * 2:=by rw [← hfle,hfl,hn]
   simp only [List.size_toArray,List.length_append,List.length_take,List.length_drop,List.length_cons,List.length_nil,Array.length_toList,hf2,hsz]
   omega
  ·rw [List.toList_toArray,hL,← hFL,List.append_assoc,List.take_append_of_le_length (by rw [List.length_take,List.length_append,List.length_append,hAl,hdl,List.length_drop,Array.length_toList]; omega),List.take_take,Nat.min_self]
   refine List.take_left' ?_
   rw [List.length_append,hAl,hdl]
   omega)
 rw [hfle] at hfl hcells
 rw [hn] at hl hi hcap hfl ⊢
 have hdl:(fl.drop ((i + 1) * 2)).length=(n - (i + 1)) * 2:=by rw [List.length_drop,hfl]; omega
 have hap:∀ ty sc (ad:Addr),ad=⟨g,(i + 1) * 2,none⟩∨n=i + 1→(Builtin.append_ #[50,50] ty #[.slice (some ⟨g,0,none⟩) i c,.slice (some ad) (n - (i + 1)) sc]).run Tryz.prog w.drew = .ok (.slice (some ⟨g,0,none⟩) (n - 1) c) (w.drew.setCells g (i * 2) (fl.drop ((i + 1) * 2))):=fun ty sc ad had=>by
  have h:=run_append_room_cells (P:=Tryz.prog) w.drew 50 ty 78 i0 Tryz.underlying50 hi0 g 0 i c ad (n - (i + 1)) sc (fl.drop ((i + 1) * 2)) (by rw [hdl,hz1]) (fun j u hj=>by
    have hlt:=(List.getElem?_eq_some_iff.1 hj).1
    rcases had with rfl | had
    ·rw [Addr.add_lit]
     exact hcells _ _ (by rwa [List.getElem?_drop] at hj)
    ·omega) (fun v hv=>h1f v (List.mem_of_mem_drop hv)) (by omega)
   (fun j hj=>by rw [hz1,show w.drew.cell? ⟨g,0 + i * 2 + j,none⟩=cur[0 + i * 2 + j]? from Blk.cell (W:=w.drew) hg _,Array.getElem?_eq_getElem (by omega)]; rfl) (fun j hj=>Blk.frozen (W:=w.drew) hg _)
  rw [hz1,Nat.zero_add] at h
  rw [show i + (n - (i + 1))=n - 1 by omega] at h
  exact h
 obtain ⟨W1,hW1⟩:∃ W1,W1=w.drew.setCells g (i * 2) (fl.drop ((i + 1) * 2)):=⟨_,rfl⟩
 have k1:=blk_put (fl.drop ((i + 1) * 2)) (i * 2) w.drew cur hg (by rw [hdl]; omega)
 have k2:=blk_put [.int .i64 0,.int .i64 0] ((n - 1) * 2) _ _ k1 (by simp; omega)
 have hg1:w.grownBy w.drew (some g):=⟨rfl,rfl,rfl,Nat.le_refl _,fun _ _ _=>rfl⟩
 have hg2:=(hg1.trans (grown_cells g (fl.drop ((i + 1) * 2)) (i * 2) w.drew)).trans (grown_cells g [.int .i64 0,.int .i64 0] ((n - 1) * 2) _)
 have HE:=Lib.hid (HP.out _ k2 hg2)
 rw [← hW1] at hap k1 HE
 have hcl:∀ ty sc,(Builtin.clear_ #[50] ty #[.slice (some ⟨g,(n - 1) * 2,none⟩) 1 sc]).run Tryz.prog W1 = .ok (.tuple #[]) (W1.setCells g ((n - 1) * 2) [.int .i64 0,.int .i64 0]):=fun ty sc =>
  run_clearP W1 ty g ((n - 1) * 2) sc (fun j hj=>by rw [k1.cell,Array.getElem?_eq_getElem (by simp; omega)]; rfl) (fun j _=>k1.frozen _)
 clear k2 hg2 hg1 hcells h1f hxs hu HP hW1 k1 hFL hL hdl
 have mixed:Tryz.prog.follows .mixedOrders=true:=by kernel_rfl
 have hb1:¬ (i:Int)=(i:Int) + 1:=by omega
 have hb2:(i:Int) + 1≤(n:Int):=by omega
 have hb3:(n:Int)≤(c:Int):=by omega
 have htn:((i:Int) + 1).toNat=i + 1:=by omega
 have hb4:i + 1≤n:=by omega
 have hb5:i≤n:=by omega
 have hb11:i≤c:=by omega
 have hb13:i < n:=hi
 have hb16:(0:Int)≤(i:Int) + 1:=by omega
 have hb14:(i:Int) + 1≤(c:Int):=by omega
 have hb15:(i:Int) < (n:Int):=by omega
 have hb12:(i:Int)≤(i:Int) + 1:=by omega
 go_enter Tryz.func80,Tryz.ntmps80
 go_wp2
 obtain ⟨m,hm⟩:∃ m,n - 1=m:=⟨_,rfl⟩
 rw [hm] at hap hcl HE
 have hb6:m≤n:=by omega
 have hb7:n - m=1:=by omega
 have hb8:¬ (c=m):=by omega
 have hb9:(m:Int)≤(n:Int):=by omega
 have hb10:n≤c:=by omega
 clear hm
 by_cases hcc:c=i + 1
 ·have hap2:=fun ty sc=>hap ty sc ⟨g,0,none⟩ (.inr (by omega))
  clear hap
  subst hcc
  go_region_law_o (refine step_appR rfl _ _ 50 50 rfl (.slice (some ⟨g,0,none⟩) i (i + 1)) (.slice (some ⟨g,0,none⟩) (n - (i + 1)) 0) (by simp [Act.eval,Act.put]) (by simp [Act.eval,Act.put]; try omega) (hap2 _ _) ?_)
  all_goals go_wp2_with (at_builtin; refine wpList_clearR _ rfl _ 50 rfl _ rfl (hcl _ _) ?_)
  all_goals go_ret
  all_goals exact HE.out
 ·have hap2:=fun ty sc=>hap ty sc ⟨g,(i + 1) * 2,none⟩ (.inl rfl)
  clear hap
  go_region_law_o (refine step_appR rfl _ _ 50 50 rfl (.slice (some ⟨g,0,none⟩) i c) (.slice (some ⟨g,(i + 1) * 2,none⟩) (n - (i + 1)) (c - (i + 1))) (by simp [Act.eval,Act.put]) (by simp [Act.eval,Act.put]) (hap2 _ _) ?_)
  all_goals go_wp2_with (at_builtin; refine wpList_clearR _ rfl _ 50 rfl _ rfl (hcl _ _) ?_)
  all_goals go_ret
  all_goals exact HE.out
end Go.Proofs.YteflhbfgpknabaaGreatDoor
