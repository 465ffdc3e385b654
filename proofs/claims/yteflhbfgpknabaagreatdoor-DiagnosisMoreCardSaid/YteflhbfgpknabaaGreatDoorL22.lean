/-
  A part of the proof: VH,VI,VJ,VK,VL,KW,AK0.
-/
import Derived.Test.YteflhbfgpknabaaGreatDoorL21
import Derived.BigQuiet
import Derived.Deep.QuietTactic
import Derived.Test.YteflhbfgpknabaaGreatDoorL07
import Derived.Lib.AppendZeros
import Derived.Lib.AppendZerosOnto
import Derived.Deep.AppendSrc
import Derived.Laws.NewBlocks
import Derived.Laws.IdiomCopy
import Derived.Deep.CutRange
import Derived.Shelf.RegionOpenPlain
import Derived.Shelf.Spec.SlicesInsert
import Derived.ArgAppend
import Derived.Test.YteflhbfgpknabaaGreatDoorL08
set_option maxRecDepth 100000
set_option maxHeartbeats 6400000
namespace Go.Proofs.YteflhbfgpknabaaGreatDoor
open Go.Lib (hid)
open Go.RowKit Go.Shelf
structure BsI (l:List Pp) (p:Pp) (i j:Nat):Prop where
 le:i≤j
 len:j≤l.length
 lo:∀ k (hk:k<l.length),k<i→ppLt l[k] p
 hi:∀ k (hk:k<l.length),j≤k→¬ ppLt l[k] p
theorem BsI.up {l:List Pp} {p:Pp} {i j h:Nat} (b:BsI l p i j) (hs:l.Pairwise ppLt) (h1:i≤h) (h2:h<j) (hl:h<l.length) (hc:ppLt l[h] p):BsI l p (h+1) j :=
 ⟨by omega,b.len,fun k hk hkh=>by
  by_cases e:k=h
  ·subst e;exact hc
  ·exact ppLt_trans (List.pairwise_iff_getElem.1 hs k h hk hl (by omega)) hc,b.hi⟩
theorem BsI.down {l:List Pp} {p:Pp} {i j h:Nat} (b:BsI l p i j) (hs:l.Pairwise ppLt) (h1:i≤h) (h2:h<j) (hl:h<l.length) (hc:¬ ppLt l[h] p):BsI l p i h :=
 ⟨h1,by omega,b.lo,fun k hk hkh=>by
  by_cases e:k=h
  ·subst e;exact hc
  ·exact fun q=>hc (ppLt_trans (List.pairwise_iff_getElem.1 hs h k hl hk (by omega)) q)⟩
theorem hold4c {w W W':World} {p0 p1 p2 p3:Addr} {u0 u1 u2 u3:Value} (h:Below w.heap.size w W∧W.cell? p0=some u0∧W.cell? p1=some u1∧W.cell? p2=some u2∧W.cell? p3=some u3) (hb:Below W.heap.size W W'):Below w.heap.size w W'∧W'.cell? p0=some u0∧W'.cell? p1=some u1∧W'.cell? p2=some u2∧W'.cell? p3=some u3 :=
 ⟨below_step h.1 hb,(hb.cell (cell_size h.2.1)).trans h.2.1,(hb.cell (cell_size h.2.2.1)).trans h.2.2.1,(hb.cell (cell_size h.2.2.2.1)).trans h.2.2.2.1,(hb.cell (cell_size h.2.2.2.2)).trans h.2.2.2.2⟩
theorem BsI.mem {l:List Pp} {p:Pp} {i:Nat} (b:BsI l p i i) (hs:l.Pairwise ppLt):p∈l↔∃ h:i<l.length,l[i]=p:=by
 constructor
 ·intro hp
  obtain ⟨k,hk,rfl⟩:=List.getElem_of_mem hp
  have h1:¬ k<i:=fun h=>ppLt_irrefl _ (b.lo k hk h)
  have h2:i<l.length:=by omega
  refine ⟨h2,?_⟩
  by_cases e:k=i
  ·subst e;rfl
  ·exact absurd (List.pairwise_iff_getElem.1 hs i k h2 hk (by omega)) (b.hi i h2 (Nat.le_refl _))
 ·rintro ⟨h,rfl⟩
  exact List.getElem_mem h
def BsE (l:List Pp) (p:Pp) (w:World) (e:Ending) (w':World):Prop:=∃ i:Nat,BsI l p i i∧e = .returned (.tuple #[.int .i64 i,.bool (decide (p∈l))])∧Below w.heap.size w w'
theorem search_any (l:List Pp) (hs:l.Pairwise ppLt) (v:Value) (a t:Int) (w:World) (hl:l.length≤1000000) (hv:ARd w v 2 (l.map ppC)) :
  Calls Tryz.prog 78 #[v,.agg #[.int .i64 a,.int .i64 t],.func (.func 42) #[] #[]] w (BsE l (a,t) w):=by
 obtain ⟨av,cv,ev⟩:=hv.form
 rw [List.length_map] at ev
 subst ev
 have hb0:Below w.heap.size w (w.alloc (.cells #[.int .i64 a,.int .i64 t] 78)):=(Below.refl _ _).alloc (Nat.le_refl _) _
 have HB0:=hid hb0
 have HK0:=hid (Blk.new w 78 #[.int .i64 a,.int .i64 t])
 have HV:=hid hv
 have HS:=hid hs
 have HI0:=hid (show BsI l (a,t) 0 l.length from ⟨Nat.zero_le _,Nat.le_refl _,fun _ _ h=>absurd h (by omega),fun _ _ h=>absurd h (by omega)⟩)
 clear hv hs hb0
 go_enter Tryz.func78,Tryz.ntmps78
 go_wp2
 generalize w.alloc (.cells #[.int .i64 a,.int .i64 t] 78)=W0 at *
 go_loopw [9,10] (fun x y wr=>∃ i j:Nat,x = .int .i64 i∧y = .int .i64 j∧i≤j∧j≤l.length∧RowKit.Hid (BsI l (a,t) i j)∧RowKit.Hid (Below w.heap.size w wr)∧RowKit.Hid (Blk wr w.heap.size 78 #[.int .i64 a,.int .i64 t])) (fun x y _=>(intOf y).toNat-(intOf x).toNat)
 case atStart=>exact ⟨0,l.length,rfl,rfl,Nat.zero_le _,Nat.le_refl _,HI0,HB0,HK0⟩
 clear HI0 HB0 HK0
 obtain ⟨i,j,rfl,rfl,hij,hjl,hI,hB,hK⟩:=hrel
 by_cases hlt:i<j
 ·have hlt2:(i:Int)<(j:Int):=by omega
  have e1:IntKind.i64.wrap ((i:Int)+(j:Int))=(i:Int)+(j:Int):=IntWalk.i64_in _ (by omega)
  go_upto_region 5 with fail
  obtain ⟨h,hh⟩:∃ h:Nat,((i:Int)+(j:Int)) / 2=(h:Int):=⟨(i+j) / 2,by omega⟩
  rw [hh]
  have hl1:i≤h:=by omega
  have hl2:h<j:=by omega
  have hl3:h<l.length:=by omega
  have hl4:(h:Int)<(l.length:Int):=by omega
  obtain ⟨b,o,c',ev,_,q0,q1⟩:=(HV.out.later hB.out).ppAt h hl3
  cases ev
  have HUP:=hid (fun hc=>hI.out.up HS.out hl1 hl2 hl3 hc)
  have HDN:=hid (fun hc=>hI.out.down HS.out hl1 hl2 hl3 hc)
  have z0:wr.cell? ⟨w.heap.size,0,none⟩=some (.int .i64 a):=hK.out.cell 0
  have z1:wr.cell? ⟨w.heap.size,1,none⟩=some (.int .i64 t):=hK.out.cell 1
  obtain ⟨x,hx⟩:∃ x,l[h]=x:=⟨_,rfl⟩
  rw [hx] at q0 q1 HUP HDN
  obtain ⟨x1,x2⟩:=x
  simp only at q0 q1
  have HLT:=hid (cfI_lt x1 x2 a t)
  have HB1:=hid (hB.out.drew)
  have HK1:=hid (hK.out.below (show Below wr.heap.size wr wr.drew from (Below.refl _ _).drew))
  clear hh hx e1
  go_still_tail 6,(by kernel_rfl)
  repeat still_step
  try refine wpStill_nil ?_
  try change wpList _ _ _ _ _ wr.drew
  generalize wr.drew=W1 at *
  clear q0 q1 z0 z1 hB hK hI
  go_wp2_with fail
  refine (byPipe_any x1 x2 a t _).mono ?_
  rintro e w2 ⟨rfl,hg⟩
  have HB3:=hid (below_step HB1.out hg.below)
  have HK3:=hid (HK1.out.below hg.below)
  clear hg HB1 HK1
  obtain ⟨z,hz⟩:∃ z,cfI x1 x2 a t=z:=⟨_,rfl⟩
  rw [hz] at HLT ⊢
  clear hz
  by_cases hzz:z<0
  ·have d1:decide (z<0)=true:=decide_eq_true hzz
   have HI2:=hid (HUP.out (HLT.out.1 hzz))
   clear hzz
   go_wp2
   go_roundw
   case rel=>exact ⟨h+1,j,by go_num,rfl,by omega,by omega,HI2,HB3,HK3⟩
   case measure=>simp [intOf];omega
  ·have d1:decide (z<0)=false:=decide_eq_false hzz
   have HI2:=hid (HDN.out fun q=>hzz (HLT.out.2 q))
   clear hzz
   go_wp2
   go_roundw
   case rel=>exact ⟨i,h,rfl,by go_num,by omega,by omega,HI2,HB3,HK3⟩
   case measure=>simp [intOf];omega
 ·have hlt2:¬ (i:Int)<(j:Int):=by omega
  have hje:i=j:=by omega
  subst hje
  have HM:=hid (hI.out.mem HS.out)
  have HI:=hid hI.out
  clear hI
  go_upto_region 8 with fail
  have HB1:=hid (hB.out.drew)
  by_cases hn:i<l.length
  ·have hl4:(i:Int)<(l.length:Int):=by omega
   obtain ⟨b,o,c',ev,_,q0,q1⟩:=(HV.out.later hB.out).ppAt i hn
   cases ev
   have HM2:=hid (show ((a,t):Pp)∈l↔l[i]=(a,t) from HM.out.trans ⟨fun ⟨_,h⟩=>h,fun h=>⟨hn,h⟩⟩)
   have z0:wr.cell? ⟨w.heap.size,0,none⟩=some (.int .i64 a):=hK.out.cell 0
   have z1:wr.cell? ⟨w.heap.size,1,none⟩=some (.int .i64 t):=hK.out.cell 1
   obtain ⟨x,hx⟩:∃ x,l[i]=x:=⟨_,rfl⟩
   rw [hx] at q0 q1 HM2
   obtain ⟨x1,x2⟩:=x
   simp only at q0 q1
   have HZ:=hid (cfI_zero x1 x2 a t)
   clear hx hn
   have HDZ:=hid (show (cfI x1 x2 a t==0)=decide (((a,t):Pp)∈l) from by
    rw [Bool.eq_iff_iff,beq_iff_eq,decide_eq_true_iff,HZ.out,HM2.out]
    constructor
    ·rintro ⟨rfl,rfl⟩;rfl
    ·intro e;exact Prod.mk.inj e)
   have hdr:=hold4c ⟨hB.out,z0,z1,q0,q1⟩ (show Below wr.heap.size wr wr.drew from (Below.refl _ _).drew)
   clear z0 z1 q0 q1 hB hK
   go_region_held3 (fun w'=>Below w.heap.size w w'∧w'.cell? ⟨w.heap.size,0,none⟩=some (.int .i64 a)∧w'.cell? ⟨w.heap.size,1,none⟩=some (.int .i64 t)∧w'.cell? ⟨b,o+i * 2,none⟩=some (.int .i64 x1)∧w'.cell? ⟨b,o+i * 2+1,none⟩=some (.int .i64 x2)) (first | exact hdr | assumption) (first | (go_at_call 42;(with_reducible refine (byPipe_any x1 x2 a t _).mono ?_);rintro e w2 ⟨rfl,hg2⟩;have hn:=hold4c hdr hg2.below;clear hg2))
   all_goals (go_wp2;go_ret2;exact ⟨i,HI.out,by rw [← HDZ.out];rfl,hn.1⟩)
  ·have hl4:¬ (i:Int)<(l.length:Int):=by omega
   have HD:=hid (show decide (((a,t):Pp)∈l)=false from decide_eq_false fun h=>hn (HM.out.1 h).1)
   clear hn
   clear hK HB1
   go_quiet (fail)
   have HB2:=hid (below_drewN hB.out nq)
   clear hB
   go_wp2
   go_ret2
   exact ⟨i,HI.out,by rw [HD.out];rfl,HB2.out⟩
open Go.Lib
theorem run_copyK {P:Program} (w:World) (dT sT ty elem:TypeId) (k b o dLen dCap:Nat) (a:Addr) (sLen sCap:Nat) (cs:List Value)
  (hu:P.underlying dT=some (.slice elem)) (hs:(P.info? elem).map (·.size)=some k) (hn:cs.length=Nat.min sLen dLen * k)
  (hsrc:∀ j v,cs[j]?=some v→w.cell? (a.add j)=some v) (hc:∀ j,j<cs.length→(w.cell? ⟨b,o+j,none⟩).isSome=true) (hf:∀ j,j<cs.length→w.frozen? ⟨b,o+j,none⟩=false) (h1:∀ v∈cs,v.oneCell'=true) :
  (Builtin.copy_ #[dT,sT] ty #[.slice (some ⟨b,o,none⟩) dLen dCap,.slice (some a) sLen sCap]).run P w = .ok (goInt (Nat.min sLen dLen)) (w.setCells b o cs):=by
 have hl:=run_loadCells_list (P:=P) w a cs hsrc
 have hst:=run_storeCells_cells (P:=P) b o cs 0 w (by simpa using hc) (by simpa using hf) h1
 cases hq:P.info? elem with
 | none=>simp [hq] at hs
 | some i =>
  have hi:i.size=k:=by simpa [hq] using hs
  simp [Builtin.copy_,run_underlying hu,Builtin.lenOf,Builtin.firstCells,sizeOf,typeInfo,hq,hi,← hn,hl,hst]
theorem step_copyK {P:Program} {ops:Array Oper} {o:Oper} {a:Act} {w:World} {K:Act→World→Prop} {Q:Exit→Act→World→Prop} {E:Prop}
  (hg:o.guard=none) (d x:Operand) (dT sT:TypeId) (hop:o.op=Op.call { callee:=Callee.builtin Builtin.copy,args:=#[d,x],argTypes:=#[dT,sT] })
  (v u:Value) (hd:a.eval d=v) (hx:a.eval x=u) {v':Value} {w':World} (hr:(Builtin.copy_ #[dT,sT] o.type #[v,u]).run P w = .ok v' w') (hK:K (a.put o.dst v') w') :
  if Region.wanted o (yielded ops a.tmps)=true then Oper.wp P o a w K Q else E:=by
 have hw:Region.wanted o (yielded ops a.tmps)=true:=by simp [Region.wanted,hg]
 rw [if_pos hw]
 unfold Oper.wp
 simp [execOp,hop,resolve,invoke,builtin,hd,hx,hr,Result.andThen]
 exact hK
theorem pp_one (l:List Pp):∀ u∈(l.map ppC).flatten,u.oneCell'=true:=by
 intro u hu
 obtain ⟨r,hr,hu⟩:=List.mem_flatten.1 hu
 obtain ⟨p,_,rfl⟩:=List.mem_map.1 hr
 simp only [ppC,List.mem_cons,List.not_mem_nil,or_false] at hu
 rcases hu with rfl | rfl <;> rfl
def InP (base:Nat) (u:Value) (l:List Pp) (w:World) (e:Ending) (w':World):Prop:=∃ u',e = .returned u'∧w'.ownsRow base 78 2 u' l.length (l.map ppC).flatten∧w.grownBy w' u.ownBlock
theorem insertP_end (qs ms:List Pp) (hl:qs.length+ms.length≤40000) (hm:0<ms.length) (base:Nat) (a b:Option Addr) (c d:Nat) (w:World) (hbase:base≤w.heap.size)
  (hu:w.ownsRow base 78 2 (.slice a qs.length c) qs.length (qs.map ppC).flatten) (_hnc:qs.length≤c)
  (hv:w.ownsRow base 78 2 (.slice b ms.length d) ms.length (ms.map ppC).flatten) :
  Calls Tryz.prog 79 #[.slice a qs.length c,.int .i64 qs.length,.slice b ms.length d] w (InP base (.slice a qs.length c) (qs++ms) w):=by
 obtain ⟨i0,hi0,hz0,hz1,hz2⟩:=info_parts pp_info
 obtain ⟨g2,cap2,e2,_,_⟩:=hv.form hm
 simp only [Value.slice.injEq] at e2
 obtain ⟨rfl,-,rfl⟩:=e2
 have hvc:∀ j v,((ms.map ppC).flatten)[j]?=some v→w.cell? ((⟨g2,0,none⟩:Addr).add j)=some v:=hv.cells rfl
 have hvl:((ms.map ppC).flatten).length=ms.length * 2:=hv.1
 obtain ⟨n,hn⟩:∃ n,qs.length=n:=⟨_,rfl⟩
 obtain ⟨m,hmm⟩:∃ m,ms.length=m:=⟨_,rfl⟩
 have HE:=hid (show (qs++ms).length=n+m by rw [List.length_append,hn,hmm])
 have HF:=hid (show ((qs++ms).map ppC).flatten=(qs.map ppC).flatten++(ms.map ppC).flatten by rw [List.map_append,List.flatten_append])
 rw [hn] at hu hl _hnc ⊢
 rw [hmm] at hv hl hm hvl ⊢
 have hm0:¬ ((m:Int)=0):=by omega
 have hm1:((m:Int)==0)=false:=by rw [beq_eq_false_iff_ne];exact hm0
 have HU:=hid hu
 have HVC:=hid hvc
 have HVL:=hid hvl
 clear hv hn hmm hu hvc hvl
 go_enter Tryz.func79,Tryz.ntmps79
 go_wp2_with (at_builtin;refine wpList_append_own _ rfl _ _ 50 rfl base 78 i0 _ 2 16 Tryz.underlying50 hi0 hz0 hz1 hz2 rfl (by omega) (.slice a n c) _ _ rfl HU.out ⟨g2,0,none⟩ m _ ((ms.map ppC).flatten) rfl HVL.out HVC.out (pp_one ms) (by unfold maxLen;omega) (by omega) hbase ?_;intro v' w1 hown' hgrow _)
 all_goals (go_ret;exact ⟨_,rfl,by rw [HE.out,HF.out];exact hown',by cases a <;> exact hgrow⟩)
theorem insertP_shift (g n c i vb vc:Nat) (cs vs:List Value) (w:World) (hi:i<n) (hroom:n+1≤c) (hc63:c≤9223372036854775807) (hvb:vb≠g)
  (hcl:cs.length=n * 2) (hvl:vs.length=2)
  (hcs:∀ j v,cs[j]?=some v→w.cell? ⟨g,j,none⟩=some v) (hsp:∀ j,j<(n+1) * 2→(w.cell? ⟨g,j,none⟩).isSome=true) (hfz:∀ j,j<(n+1) * 2→w.frozen? ⟨g,j,none⟩=false)
  (hvs:∀ j v,vs[j]?=some v→w.cell? ⟨vb,j,none⟩=some v) (h1c:∀ v∈cs,v.oneCell'=true) (h1v:∀ v∈vs,v.oneCell'=true)
  (tA tB:TypeId) (kA kB:Nat) (hsa:w.shape? vb=some (tA,kA)) (hsb:w.shape? g=some (tB,kB)) (hkB:kB≠0) (hfa:w.frozen? ⟨vb,0,none⟩=false) (hfe:w.frozen? ⟨vb,kA,none⟩=false) :
  Calls Tryz.prog 79 #[.slice (some ⟨g,0,none⟩) n c,.int .i64 i,.slice (some ⟨vb,0,none⟩) 1 vc] w fun e w' =>
   e = .returned (.slice (some ⟨g,0,none⟩) (n+1) c)∧w'=(w.drew.setCells g ((i+1) * 2) (cs.drop (i * 2))).setCells g (i * 2) vs:=by
 have hz2:¬ ((i:Int)=(n:Int)):=by omega
 have hsz:(Tryz.prog.info? 78).map (·.size)=some 2:=by kernel_rfl
 have hov:∀ o lb cb,(callFunc 118 #[.slice (some ⟨vb,0,none⟩) 1 vc,.slice (some ⟨g,o,none⟩) lb cb]).run Tryz.prog w = .ok (.value (.bool false)) w:=fun o lb cb=>by
  rw [run_callFunc_extern Tryz.func118 (by kernel_rfl) (by kernel_rfl) (by kernel_rfl) (e:=Extern.SlicesOverlaps.overlaps #[50,50] #[4]) (by kernel_rfl),
   Lib.run_overlaps_apart w 50 4 78 Tryz.underlying50 2 Tryz.sizeOf78 ⟨vb,0,none⟩ ⟨g,o,none⟩ 1 vc lb cb hvb tA tB kA kB hsa hsb hkB hfa hfe]
  rfl
 have hdl:(cs.drop (i * 2)).length=(n-i) * 2:=by rw [List.length_drop,hcl];omega
 have hw1:IntKind.i64.wrap ((i:Int)+1)=(i:Int)+1:=by rw [IntKind.wrap_i64];omega
 have hw2:IntKind.i64.wrap ((n:Int)+1)=(n:Int)+1:=by rw [IntKind.wrap_i64];omega
 have hb1:(0:Int)≤(i:Int)+1:=by omega
 have mixed:Tryz.prog.follows .mixedOrders=true:=by kernel_rfl
 have hin:i≤n:=by omega
 have hb2:¬ (c=i+1):=by omega
 have hb3:(i:Int)≤(n:Int)+1:=by omega
 have hb4:¬ (c=i):=by omega
 have hb5:i≤n+1:=by omega
 have htn:((i:Int)+1).toNat=i+1:=by omega
 have htn2:((n:Int)+1).toNat=n+1:=by omega
 have hcp1:∀ ty dc sc,(Builtin.copy_ #[50,50] ty #[.slice (some ⟨g,(i+1) * 2,none⟩) (n-i) dc,.slice (some ⟨g,i * 2,none⟩) (n+1-i) sc]).run Tryz.prog w.drew = .ok (goInt (Nat.min (n+1-i) (n-i))) (w.drew.setCells g ((i+1) * 2) (cs.drop (i * 2))):=fun ty dc sc =>
  run_copyK w.drew _ _ ty 78 2 g ((i+1) * 2) (n-i) dc ⟨g,i * 2,none⟩ (n+1-i) sc (cs.drop (i * 2)) Tryz.underlying50 hsz (by rw [hdl];simp only [Nat.min_def];split <;> omega)
   (fun j v hj=>by rw [Addr.add_lit];exact hcs (i * 2+j) v (by rwa [List.getElem?_drop] at hj))
   (fun j hj=>hsp _ (by omega)) (fun j hj=>hfz _ (by omega)) (fun v hv=>h1c v (List.mem_of_mem_drop hv))
 obtain ⟨W1,hW1⟩:∃ W1,W1=w.drew.setCells g ((i+1) * 2) (cs.drop (i * 2)):=⟨_,rfl⟩
 have hsp1:∀ k,k<(n+1) * 2→(W1.cell? ⟨g,k,none⟩).isSome=true:=fun k hk=>by
  rw [hW1]
  exact isSome_setCells g (cs.drop (i * 2)) ((i+1) * 2) w.drew (fun j hj=>hsp _ (by omega)) _ (hsp k hk)
 have hcp2:∀ (W:World),(∀ x,W.cell? x=W1.cell? x)→(∀ x,W.frozen? x=W1.frozen? x)→∀ ty dc,(Builtin.copy_ #[50,50] ty #[.slice (some ⟨g,i * 2,none⟩) (n+1-i) dc,.slice (some ⟨vb,0,none⟩) 1 vc]).run Tryz.prog W = .ok (goInt (Nat.min 1 (n+1-i))) (W.setCells g (i * 2) vs):=fun W hWc hWf ty dc =>
  run_copyK W _ _ ty 78 2 g (i * 2) (n+1-i) dc ⟨vb,0,none⟩ 1 vc vs Tryz.underlying50 hsz (by rw [hvl];simp only [Nat.min_def];split <;> omega)
   (fun j v hj=>by
    rw [Addr.add_lit,hWc,hW1,World.cell?_setCells_out g _ _ _ _ (fun h _=>absurd h hvb),Nat.zero_add]
    exact hvs j v hj)
   (fun j hj=>by rw [hWc];exact hsp1 _ (by omega)) (fun j hj=>by rw [hWf,hW1,World.frozen?_setCells];exact hfz _ (by omega)) h1v
 rw [← hW1] at hcp1
 go_enter Tryz.func79,Tryz.ntmps79
 go_wp2_with (simp only [hov])
 go_region_law_o (refine step_copyK rfl _ _ 50 50 rfl (.slice (some ⟨g,(i+1) * 2,none⟩) (n-i) (c-(i+1))) (.slice (some ⟨g,i * 2,none⟩) (n+1-i) (c-i)) (by simp [Act.eval,Act.put]) (by simp [Act.eval,Act.put]) (hcp1 _ _ _) ?_)
 all_goals go_wp2_with (at_builtin;refine wpList_copyK _ rfl _ _ 50 50 rfl _ _ rfl rfl (hcp2 _ (fun _=>rfl) (fun _=>rfl) _ _) ?_)
 all_goals go_ret
 all_goals first | exact ⟨rfl,rfl⟩ | exact ⟨rfl,by rw [hW1]⟩
theorem pp_flat_take (qs:List Pp) (i:Nat) (h:i≤qs.length):((qs.map ppC).flatten).take (i * 2)=((qs.take i).map ppC).flatten:=by
 induction qs generalizing i with
 | nil=>simp
 | cons a l ih =>
  cases i with
  | zero=>simp
  | succ i =>
   rw [List.map_cons,List.flatten_cons,List.take_succ_cons,List.map_cons,List.flatten_cons,← ih i (by simpa using h)]
   rw [show (i+1) * 2=(ppC a).length+i * 2 by simp [ppC];omega,List.take_length_add_append]
theorem pp_flat_drop (qs:List Pp) (i:Nat) (h:i≤qs.length):((qs.map ppC).flatten).drop (i * 2)=((qs.drop i).map ppC).flatten:=by
 induction qs generalizing i with
 | nil=>simp
 | cons a l ih =>
  cases i with
  | zero=>simp
  | succ i =>
   rw [List.map_cons,List.flatten_cons,List.drop_succ_cons,← ih i (by simpa using h)]
   rw [show (i+1) * 2=(ppC a).length+i * 2 by simp [ppC];omega,List.drop_length_add_append]
theorem insertP_grow (qs ms:List Pp) (hl:qs.length+ms.length≤40000) (hm:0<ms.length) (base i:Nat) (hi:i<qs.length) (a b:Option Addr) (d:Nat) (w:World) (hbase:base≤w.heap.size)
  (hu:w.ownsRow base 78 2 (.slice a qs.length qs.length) qs.length (qs.map ppC).flatten)
  (hv:w.ownsRow base 78 2 (.slice b ms.length d) ms.length (ms.map ppC).flatten) :
  Calls Tryz.prog 79 #[.slice a qs.length qs.length,.int .i64 i,.slice b ms.length d] w (InP base (.slice a qs.length qs.length) (qs.take i++(ms++qs.drop i)) w):=by
 obtain ⟨i0,hi0,hz0,hz1,hz2⟩:=info_parts pp_info
 obtain ⟨g1,cap1,e1,_,hg1⟩:=hu.form (by omega)
 simp only [Value.slice.injEq] at e1
 obtain ⟨rfl,-,rfl⟩:=e1
 obtain ⟨g2,cap2,e2,_,hg2⟩:=hv.form hm
 simp only [Value.slice.injEq] at e2
 obtain ⟨rfl,-,rfl⟩:=e2
 have hcs:∀ j v,((qs.map ppC).flatten)[j]?=some v→w.cell? ⟨g1,j,none⟩=some v:=fun j v hj=>by have:=hu.cells (g:=g1) rfl j v hj;rwa [Addr.add_lit,Nat.zero_add] at this
 have hvs:∀ j v,((ms.map ppC).flatten)[j]?=some v→w.cell? ⟨g2,j,none⟩=some v:=fun j v hj=>by have:=hv.cells (g:=g2) rfl j v hj;rwa [Addr.add_lit,Nat.zero_add] at this
 have hql:((qs.map ppC).flatten).length=qs.length * 2:=hu.1
 have hvl:((ms.map ppC).flatten).length=ms.length * 2:=hv.1
 obtain ⟨n,hn⟩:∃ n,qs.length=n:=⟨_,rfl⟩
 obtain ⟨m,hmm⟩:∃ m,ms.length=m:=⟨_,rfl⟩
 obtain ⟨CS,hCS⟩:∃ CS,(qs.map ppC).flatten=CS:=⟨_,rfl⟩
 obtain ⟨VS,hVS⟩:∃ VS,(ms.map ppC).flatten=VS:=⟨_,rfl⟩
 have h1c:∀ v∈CS,v.oneCell'=true:=by rw [← hCS];exact pp_one qs
 have h1v:∀ v∈VS,v.oneCell'=true:=by rw [← hVS];exact pp_one ms
 have HEL:=hid (show (qs.take i++(ms++qs.drop i)).length=n+m by rw [List.length_append,List.length_append,List.length_take,List.length_drop];omega)
 have HEF:=hid (show ((qs.take i++(ms++qs.drop i)).map ppC).flatten=CS.take (i * 2)++VS++CS.drop (i * 2) by
  rw [List.map_append,List.map_append,List.flatten_append,List.flatten_append,← pp_flat_take qs i (by omega),← pp_flat_drop qs i (by omega),hCS,hVS,List.append_assoc])
 rw [hCS] at hcs hql
 rw [hVS] at hvs hvl
 rw [hn] at hl hi hql ⊢
 rw [hmm] at hl hm hvl ⊢
 clear hu hv hCS hVS hn hmm
 have hm1:((m:Int)==0)=false:=by rw [beq_eq_false_iff_ne];omega
 have hm2:¬ ((m:Int)=0):=by omega
 have hi1:((i:Int)==(n:Int))=false:=by rw [beq_eq_false_iff_ne];omega
 have hi2:¬ ((i:Int)=(n:Int)):=by omega
 have hi3:(i:Int)≤(n:Int):=by omega
 have hz3:(n:Int)<(n:Int)+(m:Int):=by omega
 have hsz:(Tryz.prog.info? 78).map (·.size)=some 2:=by rw [hi0];simp [hz1]
 have hkk:(n:Int)+(m:Int)-(i:Int)=((n+m-i:Nat):Int):=by omega
 have hik:i+(n+m-i)=n+m:=by omega
 have htl:(CS.take (i * 2)).length=i * 2:=by rw [List.length_take];omega
 have hdl:(CS.drop (i * 2)).length=(n-i) * 2:=by rw [List.length_drop,hql];omega
 have hold:(Builtin.firstCells i0.size i (.slice (some ⟨g1,0,none⟩) i n)).run Tryz.prog w.drew = .ok (CS.take (i * 2)).toArray w.drew:=by
  rw [hz1]
  exact run_firstCells_some w.drew 2 i ⟨g1,0,none⟩ i n (CS.take (i * 2)) htl (fun j v hj=>by
   rw [Addr.add_lit,Nat.zero_add]
   rw [List.getElem?_take] at hj
   split at hj
   ·exact hcs j v hj
   ·cases hj)
 have hrz:∀ ty,(Builtin.append_ #[50,3] ty #[.slice (some ⟨g1,0,none⟩) i n,.int .i64 ((n:Int)+(m:Int)-(i:Int))]).run Tryz.prog w =
   .ok (.slice (some ⟨w.heap.size,0,none⟩) (n+m) (grownCap w (n+m) n 78)) (w.drew.alloc (.cells ((CS.take (i * 2)).toArray++Builtin.zeroCells (Value.agg #[.int .i64 0,.int .i64 0]).cells (n+m-i)++Builtin.zeroCells (Value.agg #[.int .i64 0,.int .i64 0]).cells (grownCap w (n+m) n 78-(n+m))) 78)):=fun ty=>by
  have h:=run_append_grow_zeros w 50 3 ty 78 i0 _ .i64 .i64 Tryz.underlying50 Tryz.underlying3 hi0 hz0 (some ⟨g1,0,none⟩) i n (CS.take (i * 2)) hold (n+m-i) (by omega) (by omega) (by omega) (by omega) (by rw [hz2];omega) (by rw [hz2,hik];exact growslice_fits (by omega) (by omega))
  rw [hik] at h
  rw [hkk]
  exact h
 have hGn:=grownCap_ge w (n+m) n 78
 have hGm:=grownCap_le_maxLen w (n+m) n 78 (by unfold maxLen;omega)
 obtain ⟨G,hG⟩:∃ G,G=grownCap w (n+m) n 78:=⟨_,rfl⟩
 obtain ⟨Z1,hZ1⟩:∃ Z1:Array Value,Z1=Builtin.zeroCells (Value.agg #[.int .i64 0,.int .i64 0]).cells (n+m-i):=⟨_,rfl⟩
 obtain ⟨Z2,hZ2⟩:∃ Z2:Array Value,Z2=Builtin.zeroCells (Value.agg #[.int .i64 0,.int .i64 0]).cells (G-(n+m)):=⟨_,rfl⟩
 rw [← hG] at hrz hGn hGm
 have hz1l:Z1.size=(n+m-i) * 2:=by rw [hZ1,size_zeroCells];rfl
 have hz2l:Z2.size=(G-(n+m)) * 2:=by rw [hZ2,size_zeroCells];rfl
 rw [← hZ1,← hZ2] at hrz
 obtain ⟨ROW,hROW⟩:∃ ROW:Array Value,ROW=(CS.take (i * 2)).toArray++Z1++Z2:=⟨_,rfl⟩
 rw [← hROW] at hrz
 have hRs:ROW.size=G * 2:=by
  rw [hROW,Array.size_append,Array.size_append,List.size_toArray,htl,hz1l,hz2l]
  omega
 have hRt:ROW.toList.take (i * 2)=CS.take (i * 2):=by
  rw [hROW,Array.toList_append,Array.toList_append,List.append_assoc,List.take_append_of_le_length (by rw [htl];exact Nat.le_refl _),List.take_of_length_le (by rw [htl];exact Nat.le_refl _)]
 clear hG hZ1 hZ2 hz1l hz2l hROW
 obtain ⟨W1,hW1⟩:∃ W1,W1=(w.alloc (.cells ROW 78)).drew:=⟨_,rfl⟩
 have hk1:Blk W1 w.heap.size 78 ROW:=by rw [hW1];exact Blk.new w _ _
 have hbl:Below w.heap.size w W1:=by rw [hW1];exact ((Below.refl _ _).alloc (Nat.le_refl _) _).drew
 have hk2:=blk_put VS (i * 2) W1 ROW hk1 (by rw [hRs,hvl];omega)
 have hk3:=blk_put (CS.drop (i * 2)) ((i+m) * 2) (W1.setCells w.heap.size (i * 2) VS).drew _ hk2 (by simp [hdl,hvl,hRs];omega)
 have hsz1:W1.heap.size=w.heap.size+1:=by rw [hW1];simp
 have hN:∀ j,j<(n+m) * 2→(W1.cell? ⟨w.heap.size,j,none⟩).isSome=true:=fun j hj=>by
  rw [hk1.cell,Array.getElem?_eq_getElem (by omega)];rfl
 have hNf:∀ j,W1.frozen? ⟨w.heap.size,j,none⟩=false:=fun j=>hk1.frozen j
 have hOb:∀ j v,CS[j]?=some v→W1.cell? ⟨g1,j,none⟩=some v:=fun j v h=>(hbl.cell (p:=⟨g1,j,none⟩) hg1).trans (hcs j v h)
 have hOv:∀ j v,VS[j]?=some v→W1.cell? ⟨g2,j,none⟩=some v:=fun j v h=>(hbl.cell (p:=⟨g2,j,none⟩) hg2).trans (hvs j v h)
 have hbN:g1≠w.heap.size:=by omega
 have hmin1:Nat.min m (n+m-i)=m:=Nat.min_eq_left (by omega)
 have hmin2:Nat.min (n-i) (n+m-(i+m))=n-i:=Nat.min_eq_left (by omega)
 have hcpA:∀ (W:World),(∀ x,W.cell? x=W1.cell? x)→(∀ x,W.frozen? x=W1.frozen? x)→∀ ty dc,(Builtin.copy_ #[50,50] ty #[.slice (some ⟨w.heap.size,i * 2,none⟩) (n+m-i) dc,.slice (some ⟨g2,0,none⟩) m d]).run Tryz.prog W = .ok (goInt m) (W.setCells w.heap.size (i * 2) VS):=fun W hWc hWf ty dc=>by
  have h:=run_copyK (P:=Tryz.prog) W 50 50 ty 78 2 w.heap.size (i * 2) (n+m-i) dc ⟨g2,0,none⟩ m d VS Tryz.underlying50 hsz (by rw [hmin1,hvl])
   (fun j v hj=>by rw [Addr.add_lit,Nat.zero_add,hWc];exact hOv _ v hj)
   (fun j hj=>by rw [hWc];exact hN _ (by omega)) (fun j hj=>by rw [hWf];exact hNf _) h1v
  rwa [hmin1] at h
 have hcpB:∀ (W:World),(∀ x,W.cell? x=(W1.setCells w.heap.size (i * 2) VS).cell? x)→(∀ x,W.frozen? x=(W1.setCells w.heap.size (i * 2) VS).frozen? x)→∀ ty dc sc,(Builtin.copy_ #[50,50] ty #[.slice (some ⟨w.heap.size,(i+m) * 2,none⟩) (n+m-(i+m)) dc,.slice (some ⟨g1,i * 2,none⟩) (n-i) sc]).run Tryz.prog W = .ok (goInt ((n-i:Nat):Int)) (W.setCells w.heap.size ((i+m) * 2) (CS.drop (i * 2))):=fun W hWc hWf ty dc sc=>by
  have h:=run_copyK (P:=Tryz.prog) W 50 50 ty 78 2 w.heap.size ((i+m) * 2) (n+m-(i+m)) dc ⟨g1,i * 2,none⟩ (n-i) sc (CS.drop (i * 2)) Tryz.underlying50 hsz (by rw [hmin2,hdl])
   (fun j v hj=>by
    rw [Addr.add_lit,hWc,World.cell?_setCells_out _ _ _ _ _ (fun h _=>absurd h hbN)]
    exact hOb _ v (by rwa [List.getElem?_drop] at hj))
   (fun j hj=>by rw [hWc,hk2.cell,Array.getElem?_eq_getElem (by simp [hvl,hRs];omega)];rfl)
   (fun j hj=>by rw [hWf,World.frozen?_setCells];exact hNf _) (fun v hv=>h1c v (List.mem_of_mem_drop hv))
  rwa [hmin2] at h
 have hfin:∀ (W':World),W'=(W1.setCells w.heap.size (i * 2) VS).drew.setCells w.heap.size ((i+m) * 2) (CS.drop (i * 2))→InP base (.slice (some ⟨g1,0,none⟩) n n) (qs.take i++(ms++qs.drop i)) w (.returned (.slice (some ⟨w.heap.size,0,none⟩) (n+m) G)) W':=fun W' e=>by
  subst e
  refine ⟨_,rfl,?_,?_⟩
  ·rw [HEL.out,HEF.out]
   refine ⟨?_,.inr ⟨w.heap.size,G,_,rfl,hbase,hk3,hGn,hGm,?_,?_⟩⟩
   ·rw [List.length_append,List.length_append,htl,hvl,hdl];omega
   ·simp [hdl,hvl,hRs];omega
   ·have e1:ROW.toList.take (i * 2)++VS=CS.take (i * 2)++VS:=by rw [hRt]
    have e2:(CS.take (i * 2)++VS).length=(i+m) * 2:=by rw [List.length_append,htl,hvl];omega
    simp only [e1]
    rw [List.take_left' e2,List.take_left' (by rw [List.length_append,e2,hdl];omega)]
  ·have h1:=(grown_cells w.heap.size VS (i * 2) W1).trans (show (W1.setCells w.heap.size (i * 2) VS).grownBy (W1.setCells w.heap.size (i * 2) VS).drew (some w.heap.size) from ⟨rfl,rfl,rfl,Nat.le_refl _,fun _ _ _=>rfl⟩)
   have h2:=h1.trans (grown_cells w.heap.size (CS.drop (i * 2)) ((i+m) * 2) _)
   exact ⟨h2.os.trans hbl.os,h2.tape.trans hbl.tape,h2.output.trans hbl.output,Nat.le_trans hbl.size h2.size,fun k hk _=>(h2.block k (by omega) (by simp;omega)).trans (hbl.block k hk)⟩
 clear hk1 hk2 hk3
 subst hW1
 have hF1:∀ x,(((w.alloc (.cells ROW 78)).drew.setCells w.heap.size (i * 2) VS).drew).cell? x=((w.alloc (.cells ROW 78)).drew.setCells w.heap.size (i * 2) VS).cell? x:=fun x=>rfl
 have hF2:∀ x,(((w.alloc (.cells ROW 78)).drew.setCells w.heap.size (i * 2) VS).drew).frozen? x=((w.alloc (.cells ROW 78)).drew.setCells w.heap.size (i * 2) VS).frozen? x:=fun x=>rfl
 have hmx:Tryz.prog.follows .mixedOrders=true:=by kernel_rfl
 have hb1:(0:Int)≤(i:Int)+(m:Int):=by omega
 have hb4:((i:Int)+(m:Int))≤(n:Int)+(m:Int):=by omega
 have hin:i≤n:=by omega
 have htn:((i:Int)+(m:Int)).toNat=i+m:=by omega
 have hw1:IntKind.i64.wrap ((i:Int)+(m:Int))=(i:Int)+(m:Int):=by rw [IntKind.wrap_i64];omega
 have hG63:G≤9223372036854775807:=by unfold maxLen at hGm;omega
 have hGi:¬ (G=i):=by omega
 have hGim:¬ (G=i+m):=by omega
 have hci:¬ (n=i):=by omega
 have HFIN:=hid hfin
 clear hfin hkk hik hold hRs hRt HEL HEF hN hNf hOb hOv htl hdl hcs hvs h1c h1v hvl hql
 go_enter Tryz.func79,Tryz.ntmps79
 have hE1:∀ x,(w.drew.alloc (.cells ROW 78)).cell? x=((w.alloc (.cells ROW 78)).drew).cell? x:=fun x=>rfl
 have hE2:∀ x,(w.drew.alloc (.cells ROW 78)).frozen? x=((w.alloc (.cells ROW 78)).drew).frozen? x:=fun x=>rfl
 have hE3:∀ x,((w.alloc (.cells ROW 78)).drew).cell? x=((w.alloc (.cells ROW 78)).drew).cell? x:=fun x=>rfl
 have hE4:∀ x,((w.alloc (.cells ROW 78)).drew).frozen? x=((w.alloc (.cells ROW 78)).drew).frozen? x:=fun x=>rfl
 go_upto_region 10 with (at_builtin;refine Lib.wpList_append_run _ rfl _ _ _ _ rfl _ _ rfl rfl _ _ (hrz _) ?_)
 have hA:=hcpA (w.alloc (.cells ROW 78)).drew hE3 hE4
 go_wp2
 go_region_law_o (refine step_copyK rfl _ _ 50 50 rfl (.slice (some ⟨w.heap.size,(i+m) * 2,none⟩) (n+m-(i+m)) (G-(i+m))) (.slice (some ⟨g1,i * 2,none⟩) (n-i) (n-i)) (by simp [Act.eval,Act.put]) (by simp [Act.eval,Act.put]) (hcpB _ hF1 hF2 3 (G-(i+m)) (n-i)) ?_)
 all_goals go_wp2
 go_ret
 exact HFIN.out _ rfl
theorem shape_blk {W:World} {B:Nat} {t:TypeId} {cs:Array Value} (h:Blk W B t cs):W.shape? B=some (t,cs.size):=by
 unfold World.shape?
 rw [show W.heap[B]?=_ from h]
theorem insertP_any (qs:List Pp) (hl:qs.length≤20000) (base i:Nat) (hi:i≤qs.length) (u:Value) (p:Pp) (B:Nat) (w:World) (hbase:base≤w.heap.size) (hB:Blk w B 78 #[.int .i64 p.1,.int .i64 p.2]) (hbB:base≤B) (hne:u.ownBlock≠some B)
  (hu:w.ownsRow base 78 2 u qs.length (qs.map ppC).flatten) :
  Calls Tryz.prog 79 #[u,.int .i64 i,.slice (some ⟨B,0,none⟩) 1 1] w (InP base u (qs.take i++(p :: qs.drop i)) w):=by
 have hv:w.ownsRow base 78 2 (.slice (some ⟨B,0,none⟩) [p].length 1) [p].length (([p]:List Pp).map ppC).flatten :=
  ⟨by simp [ppC],.inr ⟨B,1,_,rfl,hbB,hB,Nat.le_refl _,by unfold maxLen;omega,rfl,rfl⟩⟩
 obtain ⟨a,c,rfl⟩:∃ a c,u = .slice a qs.length c:=own_form hu
 by_cases hin:i=qs.length
 ·subst hin
  have h:=insertP_end qs [p] (by simp;omega) (by simp) base a (some ⟨B,0,none⟩) c 1 w hbase hu (by
   rcases hu.2 with ⟨e,h0⟩ | ⟨g,cap,cur,e,_,_,hc,_⟩
   ·omega
   ·simp only [Value.slice.injEq] at e
    omega) hv
  rw [List.take_length,List.drop_length]
  exact h
 have hi2:i<qs.length:=by omega
 rcases hu.2 with ⟨e,h0⟩ | ⟨g,cap,cur,e,hbg,hg,hcap,hmx,hsz,hxs⟩
 ·omega
 simp only [Value.slice.injEq] at e
 obtain ⟨rfl,-,rfl⟩:=e
 by_cases hroom:qs.length+1≤c
 ·have hgB:B≠g:=fun e=>hne (by rw [e];rfl)
  have hfl:(qs.map ppC).flatten.length=qs.length * 2:=hu.1
  have hcells:∀ j v,((qs.map ppC).flatten)[j]?=some v→w.cell? ⟨g,j,none⟩=some v:=fun j v hj=>by
   have hlt:=(List.getElem?_eq_some_iff.1 hj).1
   rw [← hxs,List.getElem?_take,if_pos (by omega),Array.getElem?_toList] at hj
   exact (Blk.cell hg j).trans hj
  have h:=insertP_shift g qs.length c i B 1 (qs.map ppC).flatten [.int .i64 p.1,.int .i64 p.2] w hi2 hroom (by unfold maxLen at hmx;omega) hgB hfl rfl hcells
   (fun j hj=>by rw [show w.cell? ⟨g,j,none⟩=cur[j]? from Blk.cell hg j,Array.getElem?_eq_getElem (by omega)];rfl) (fun j _=>Blk.frozen hg j)
   (fun j v hj=>by rw [show w.cell? ⟨B,j,none⟩=_ from hB.cell j];simpa using hj) (pp_one qs) (fun v hv=>by simp at hv;rcases hv with rfl | rfl <;> rfl)
   _ _ 2 cur.size (shape_blk hB) (shape_blk hg) (by omega) (hB.frozen _) (hB.frozen _)
  refine h.mono ?_
  rintro e w' ⟨rfl,rfl⟩
  have hd:Blk w.drew g 78 cur:=hg
  have hfd:((qs.map ppC).flatten.drop (i * 2)).length=(qs.length-i) * 2:=by rw [List.length_drop,hfl];omega
  have k1:=blk_put ((qs.map ppC).flatten.drop (i * 2)) ((i+1) * 2) w.drew cur hd (by rw [hfd];omega)
  have k2:=blk_put [.int .i64 p.1,.int .i64 p.2] (i * 2) _ _ k1 (by simp;omega)
  have hL:(qs.take i++(p :: qs.drop i)).length=qs.length+1:=by rw [List.length_append,List.length_cons,List.length_take,List.length_drop];omega
  have hFL:(qs.map ppC).flatten.take (i * 2)++[.int .i64 p.1,.int .i64 p.2]++(qs.map ppC).flatten.drop (i * 2)=((qs.take i++(p :: qs.drop i)).map ppC).flatten:=by
   rw [pp_flat_take qs i hi,pp_flat_drop qs i hi,List.map_append,List.flatten_append,List.map_cons,List.flatten_cons,List.append_assoc]
   rfl
  have hAl:((qs.map ppC).flatten.take (i * 2)).length=i * 2:=by rw [List.length_take,hfl];omega
  have hLf:(((qs.take i++(p :: qs.drop i)).map ppC).flatten).length=(qs.take i++(p :: qs.drop i)).length * 2:=by
   rw [← hFL,List.length_append,List.length_append,hAl,hfd,hL]
   simp only [List.length_cons,List.length_nil]
   omega
  have hC1a:(cur.toList.take ((i+1) * 2)++(qs.map ppC).flatten.drop (i * 2)++cur.toList.drop ((i+1) * 2+((qs.map ppC).flatten.drop (i * 2)).length)).take (i * 2)=(qs.map ppC).flatten.take (i * 2):=by
   rw [List.append_assoc,List.take_append_of_le_length (by rw [List.length_take,Array.length_toList];omega),List.take_take,← hxs,List.take_take]
   congr 1
   omega
  have hC1b:(cur.toList.take ((i+1) * 2)++(qs.map ppC).flatten.drop (i * 2)++cur.toList.drop ((i+1) * 2+((qs.map ppC).flatten.drop (i * 2)).length)).drop (i * 2+([.int .i64 p.1,.int .i64 p.2]:List Value).length)=(qs.map ppC).flatten.drop (i * 2)++cur.toList.drop ((i+1) * 2+((qs.map ppC).flatten.drop (i * 2)).length):=by
   rw [List.append_assoc]
   refine List.drop_left' ?_
   rw [List.length_take,Array.length_toList]
   simp only [List.length_cons,List.length_nil]
   omega
  simp only at k2
  rw [hC1a,hC1b] at k2
  refine ⟨_,rfl,⟨?_,.inr ⟨g,c,_,?_,hbg,k2,?_,hmx,?_,?_⟩⟩,?_⟩
  ·exact hLf
  ·rw [hL]
  ·rw [hL];exact hroom
  ·rw [List.size_toArray,List.length_append,List.length_append,List.length_append,hAl,hfd]
   simp only [List.length_cons,List.length_nil,List.length_drop,Array.length_toList]
   omega
  ·rw [List.toList_toArray,hL,← hFL,← List.append_assoc]
   refine List.take_left' ?_
   rw [List.length_append,List.length_append,hAl,hfd]
   simp only [List.length_cons,List.length_nil]
   omega
  ·have hdg:w.grownBy w.drew (some g):=⟨rfl,rfl,rfl,Nat.le_refl _,fun _ _ _=>rfl⟩
   exact (hdg.trans (grown_cells g _ _ _)).trans (grown_cells g _ _ _)
 ·have hcn:c=qs.length:=by omega
  subst hcn
  exact insertP_grow qs [p] (by simp;omega) (by simp) base i hi2 (some ⟨g,0,none⟩) (some ⟨B,0,none⟩) 1 w hbase hu hv
theorem run_clearP (w:World) (ty:TypeId) (b o c:Nat) (hc:∀ j,j<2→(w.cell? ⟨b,o+j,none⟩).isSome=true) (hf:∀ j,j<2→w.frozen? ⟨b,o+j,none⟩=false) :
  (Builtin.clear_ #[50] ty #[.slice (some ⟨b,o,none⟩) 1 c]).run Tryz.prog w = .ok (.tuple #[]) (w.setCells b o [.int .i64 0,.int .i64 0]):=by
 have hst:=run_storeCells_cells (P:=Tryz.prog) b o [.int .i64 0,.int .i64 0] 0 w (by simpa using hc) (by simpa using hf) (by intro v hv;simp at hv;subst hv;rfl)
 have hz:∀ w,(zeroValue 78).run Tryz.prog w = .ok (.agg #[.int .i64 0,.int .i64 0]) w:=fun w=>by kernel_rfl
 have hzc:(Builtin.zeroCells (Value.agg #[Value.int IntKind.i64 0,Value.int IntKind.i64 0]).cells 1).toList=[.int .i64 0,.int .i64 0]:=by kernel_rfl
 simp only [Nat.add_zero] at hst
 simp [Builtin.clear_,run_underlying Tryz.underlying50,hz,hzc,hst]
theorem step_appR {P:Program} {ops:Array Oper} {o:Oper} {a:Act} {w:World} {K:Act→World→Prop} {Q:Exit→Act→World→Prop} {E:Prop}
  (hg:o.guard=none) (d x:Operand) (dT sT:TypeId) (hop:o.op=Op.call { callee:=Callee.builtin Builtin.append,args:=#[d,x],argTypes:=#[dT,sT] })
  (v u:Value) (hd:a.eval d=v) (hx:a.eval x=u) {v':Value} {w':World} (hr:(Builtin.append_ #[dT,sT] o.type #[v,u]).run P w = .ok v' w') (hK:K (a.put o.dst v') w') :
  if Region.wanted o (yielded ops a.tmps)=true then Oper.wp P o a w K Q else E:=by
 have hw:Region.wanted o (yielded ops a.tmps)=true:=by simp [Region.wanted,hg]
 rw [if_pos hw]
 unfold Oper.wp
 simp [execOp,hop,resolve,invoke,builtin,hd,hx,hr,Result.andThen]
 exact hK
theorem deleteP_any (qs:List Pp) (hl:qs.length≤20000) (base i:Nat) (hi:i<qs.length) (u:Value) (w:World) (hu:w.ownsRow base 78 2 u qs.length (qs.map ppC).flatten) :
  Calls Tryz.prog 80 #[u,.int .i64 i,.int .i64 ((i:Int)+1)] w (InP base u (qs.take i++qs.drop (i+1)) w):=by
 rcases hu.2 with ⟨e,h0⟩ | ⟨g,c,cur,rfl,hbg,hg,hcap,hmx,hsz,hxs⟩
 ·omega
 have hfl:(qs.map ppC).flatten.length=qs.length * 2:=hu.1
 have hL:(qs.take i++qs.drop (i+1)).length=qs.length-1:=by rw [List.length_append,List.length_take,List.length_drop];omega
 have hFL:(qs.map ppC).flatten.take (i * 2)++(qs.map ppC).flatten.drop ((i+1) * 2)=((qs.take i++qs.drop (i+1)).map ppC).flatten:=by
  rw [pp_flat_take qs i (by omega),pp_flat_drop qs (i+1) hi,List.map_append,List.flatten_append]
 obtain ⟨i0,hi0,hz0,hz1,hz2⟩:=info_parts pp_info
 have hcells:∀ j v,((qs.map ppC).flatten)[j]?=some v→w.cell? ⟨g,j,none⟩=some v:=fun j v hj=>by
  have hlt:=(List.getElem?_eq_some_iff.1 hj).1
  rw [← hxs,List.getElem?_take,if_pos (by omega),Array.getElem?_toList] at hj
  exact (Blk.cell hg j).trans hj
 obtain ⟨fl,hfle⟩:∃ fl,(qs.map ppC).flatten=fl:=⟨_,rfl⟩
 obtain ⟨n,hn⟩:∃ n,qs.length=n:=⟨_,rfl⟩
 have h1f:∀ v∈fl,v.oneCell'=true:=by rw [← hfle];exact pp_one qs
 have HP:=hid (show ∀ w',Blk w' g 78 ((cur.toList.take (i * 2)++fl.drop ((i+1) * 2)++cur.toList.drop (i * 2+(fl.drop ((i+1) * 2)).length)).toArray.toList.take ((n-1) * 2)++([Value.int .i64 0,Value.int .i64 0]:List Value)++(cur.toList.take (i * 2)++fl.drop ((i+1) * 2)++cur.toList.drop (i * 2+(fl.drop ((i+1) * 2)).length)).toArray.toList.drop ((n-1) * 2+2)).toArray→w.grownBy w' (some g)→InP base (.slice (some ⟨g,0,none⟩) n c) (qs.take i++qs.drop (i+1)) w (.returned (.slice (some ⟨g,0,none⟩) (n-1) c)) w' from by
  intro w' hk hgw
  have hAl:(fl.take (i * 2)).length=i * 2:=by rw [List.length_take,← hfle,hfl];omega
  have hdl:(fl.drop ((i+1) * 2)).length=(n-(i+1)) * 2:=by rw [List.length_drop,← hfle,hfl];omega
  have hct:cur.toList.take (i * 2)=fl.take (i * 2):=by
   rw [← hfle,← hxs,List.take_take]
   congr 1
   omega
  rw [hfle] at hFL
  rw [hn] at hL hcap hxs hi
  dsimp only at hk
  rw [hct] at hk
  refine ⟨_,rfl,⟨by rw [← hFL,List.length_append,hAl,hdl,hL];omega,.inr ⟨g,c,_,by rw [hL],hbg,hk,by rw [hL];omega,hmx,?_,?_⟩⟩,hgw⟩
  ·have hf2:fl.length=n * 2:=by rw [← hfle,hfl,hn]
   simp only [List.size_toArray,List.length_append,List.length_take,List.length_drop,List.length_cons,List.length_nil,Array.length_toList,hf2,hsz]
   omega
  ·rw [List.toList_toArray,hL,← hFL,List.append_assoc,List.take_append_of_le_length (by rw [List.length_take,List.length_append,List.length_append,hAl,hdl,List.length_drop,Array.length_toList];omega),List.take_take,Nat.min_self]
   refine List.take_left' ?_
   rw [List.length_append,hAl,hdl]
   omega)
 rw [hfle] at hfl hcells
 rw [hn] at hl hi hcap hfl ⊢
 have hdl:(fl.drop ((i+1) * 2)).length=(n-(i+1)) * 2:=by rw [List.length_drop,hfl];omega
 have hap:∀ ty sc (ad:Addr),ad=⟨g,(i+1) * 2,none⟩∨n=i+1→(Builtin.append_ #[50,50] ty #[.slice (some ⟨g,0,none⟩) i c,.slice (some ad) (n-(i+1)) sc]).run Tryz.prog w.drew = .ok (.slice (some ⟨g,0,none⟩) (n-1) c) (w.drew.setCells g (i * 2) (fl.drop ((i+1) * 2))):=fun ty sc ad had=>by
  have h:=run_append_room_cells (P:=Tryz.prog) w.drew 50 ty 78 i0 Tryz.underlying50 hi0 g 0 i c ad (n-(i+1)) sc (fl.drop ((i+1) * 2)) (by rw [hdl,hz1]) (fun j u hj=>by
    have hlt:=(List.getElem?_eq_some_iff.1 hj).1
    rcases had with rfl | had
    ·rw [Addr.add_lit]
     exact hcells _ _ (by rwa [List.getElem?_drop] at hj)
    ·omega) (fun v hv=>h1f v (List.mem_of_mem_drop hv)) (by omega)
   (fun j hj=>by rw [hz1,show w.drew.cell? ⟨g,0+i * 2+j,none⟩=cur[0+i * 2+j]? from Blk.cell (W:=w.drew) hg _,Array.getElem?_eq_getElem (by omega)];rfl) (fun j hj=>Blk.frozen (W:=w.drew) hg _)
  rw [hz1,Nat.zero_add] at h
  rw [show i+(n-(i+1))=n-1 by omega] at h
  exact h
 obtain ⟨W1,hW1⟩:∃ W1,W1=w.drew.setCells g (i * 2) (fl.drop ((i+1) * 2)):=⟨_,rfl⟩
 have k1:=blk_put (fl.drop ((i+1) * 2)) (i * 2) w.drew cur hg (by rw [hdl];omega)
 have k2:=blk_put [.int .i64 0,.int .i64 0] ((n-1) * 2) _ _ k1 (by simp;omega)
 have hg1:w.grownBy w.drew (some g):=⟨rfl,rfl,rfl,Nat.le_refl _,fun _ _ _=>rfl⟩
 have hg2:=(hg1.trans (grown_cells g (fl.drop ((i+1) * 2)) (i * 2) w.drew)).trans (grown_cells g [.int .i64 0,.int .i64 0] ((n-1) * 2) _)
 have HE:=hid (HP.out _ k2 hg2)
 rw [← hW1] at hap k1 HE
 have hcl:∀ ty sc,(Builtin.clear_ #[50] ty #[.slice (some ⟨g,(n-1) * 2,none⟩) 1 sc]).run Tryz.prog W1 = .ok (.tuple #[]) (W1.setCells g ((n-1) * 2) [.int .i64 0,.int .i64 0]):=fun ty sc =>
  run_clearP W1 ty g ((n-1) * 2) sc (fun j hj=>by rw [k1.cell,Array.getElem?_eq_getElem (by simp;omega)];rfl) (fun j _=>k1.frozen _)
 clear k2 hg2 hg1 hcells h1f hxs hu HP hW1 k1 hFL hL hdl
 have mixed:Tryz.prog.follows .mixedOrders=true:=by kernel_rfl
 have hb1:¬ (i:Int)=(i:Int)+1:=by omega
 have hb2:(i:Int)+1≤(n:Int):=by omega
 have hb3:(n:Int)≤(c:Int):=by omega
 have htn:((i:Int)+1).toNat=i+1:=by omega
 have hb4:i+1≤n:=by omega
 have hb5:i≤n:=by omega
 have hb11:i≤c:=by omega
 have hb13:i<n:=hi
 have hb16:(0:Int)≤(i:Int)+1:=by omega
 have hb14:(i:Int)+1≤(c:Int):=by omega
 have hb15:(i:Int)<(n:Int):=by omega
 have hb12:(i:Int)≤(i:Int)+1:=by omega
 go_enter Tryz.func80,Tryz.ntmps80
 go_wp2
 obtain ⟨m,hm⟩:∃ m,n-1=m:=⟨_,rfl⟩
 rw [hm] at hap hcl HE
 have hb6:m≤n:=by omega
 have hb7:n-m=1:=by omega
 have hb8:¬ (c=m):=by omega
 have hb9:(m:Int)≤(n:Int):=by omega
 have hb10:n≤c:=by omega
 clear hm
 by_cases hcc:c=i+1
 ·have hap2:=fun ty sc=>hap ty sc ⟨g,0,none⟩ (.inr (by omega))
  clear hap
  subst hcc
  go_region_law_o (refine step_appR rfl _ _ 50 50 rfl (.slice (some ⟨g,0,none⟩) i (i+1)) (.slice (some ⟨g,0,none⟩) (n-(i+1)) 0) (by simp [Act.eval,Act.put]) (by simp [Act.eval,Act.put];try omega) (hap2 _ _) ?_)
  all_goals go_wp2_with (at_builtin;refine wpList_clearR _ rfl _ 50 rfl _ rfl (hcl _ _) ?_)
  all_goals go_ret
  all_goals exact HE.out
 ·have hap2:=fun ty sc=>hap ty sc ⟨g,(i+1) * 2,none⟩ (.inl rfl)
  clear hap
  go_region_law_o (refine step_appR rfl _ _ 50 50 rfl (.slice (some ⟨g,0,none⟩) i c) (.slice (some ⟨g,(i+1) * 2,none⟩) (n-(i+1)) (c-(i+1))) (by simp [Act.eval,Act.put]) (by simp [Act.eval,Act.put]) (hap2 _ _) ?_)
  all_goals go_wp2_with (at_builtin;refine wpList_clearR _ rfl _ 50 rfl _ rfl (hcl _ _) ?_)
  all_goals go_ret
  all_goals exact HE.out
end Go.Proofs.YteflhbfgpknabaaGreatDoor
namespace Go.Proofs.YteflhbfgpknabaaGreatDoor
open Go.Lib (hid)
open Go.RowKit
def upB (md:Region.Mode) (ops:Array Oper):Nat→Nat→Nat→Bool
 | 0,_,_ => false
 | f+1,k,i=>(List.range ops.size).any fun j=>Region.waitsFor md ops k j&&(decide (j=i)||upB md ops f j i)
section
variable {P : Program} {md : Region.Mode} {ops : Array Oper} {Q : Exit → Act → World → Prop}
def Shut (md:Region.Mode) (ops:Array Oper) (ℓ:Nat→Bool):Prop:=∀ k j,ℓ k=true→Region.waitsFor md ops k j=true→ℓ j=true
theorem shut_up {ℓ:Nat→Bool} (h:Shut md ops ℓ):∀ (f k i:Nat),upB md ops f k i=true→ℓ i=false→ℓ k=false
 | 0,k,i,hu,_ => by cases hu
 | f+1,k,i,hu,hi=>by
  obtain ⟨j,_,hj⟩:=List.any_eq_true.1 hu
  rw [Bool.and_eq_true,Bool.or_eq_true,decide_eq_true_eq] at hj
  cases hk:ℓ k with
  | false=>rfl
  | true =>
   have h1:=h k j hk hj.1
   rcases hj.2 with e | e
   ·subst e;rw [hi] at h1;cases h1
   ·rw [shut_up h f j i e hi] at h1;cases h1
theorem shut_down {ℓ:Nat→Bool} (h:Shut md ops ℓ) {i:Nat} (hd:∀ j,Region.waitsFor md ops i j=true→ℓ j=true):∀ (f k:Nat),upB md ops f i k=true→ℓ k=true
 | 0,k,hu => by cases hu
 | f+1,k,hu=>by
  obtain ⟨j,_,hj⟩:=List.any_eq_true.1 hu
  rw [Bool.and_eq_true,Bool.or_eq_true,decide_eq_true_eq] at hj
  have h1:=hd j hj.1
  rcases hj.2 with e | e
  ·subst e;exact h1
  ·cases hk:ℓ k with
   | true=>rfl
   | false=>rw [shut_up h f j k e hk] at h1;cases h1
def putX (x:Nat→Value):Option Nat→Value→Nat→Value
 | none,_=>x
 | some d,v=>upd x d v
def setB (ℓ:Nat→Bool) (i:Nat):Nat→Bool:=fun n=>if n=i then true else ℓ n
structure FlowJ (md:Region.Mode) (ops:Array Oper) (Res:Nat→Value→World→Prop) (J:(Nat→Bool)→(Nat→Value)→World→Prop) (ℓ:Nat→Bool) (x:Nat→Value) (w:World):Prop where
 j:J ℓ x w
 shut:Shut md ops ℓ
 res:∀ (i:Nat) (o:Oper) (d:Nat),ops[i]?=some o→o.dst=some d→ℓ i=true→(∃ k,ℓ k=false∧Region.waitsFor md ops k i=true)→Res i (x d) w
def FlowStep (P:Program) (md:Region.Mode) (ops:Array Oper) (Q:Exit→Act→World→Prop) (F:(Nat→Value)→Act) (Res:Nat→Value→World→Prop) (J:(Nat→Bool)→(Nat→Value)→World→Prop) (i:Nat) (o:Oper):Prop :=
 ∀ (ℓ:Nat→Bool) (x:Nat→Value) (w:World),J ℓ x w→ℓ i=false→(∀ f k,upB md ops f k i=true→ℓ k=false)→(∀ f k,upB md ops f i k=true→ℓ k=true)→(∀ j,Region.waitsFor md ops i j=true→∀ (o':Oper) (d':Nat),ops[j]?=some o'→o'.dst=some d'→Res j (x d') w) →
  ∀ K:Act→World→Prop,(∀ v w',J (setB ℓ i) (putX x o.dst v) w'→(∀ j v',ℓ j=true→(∃ k,k≠i∧ℓ k=false∧Region.waitsFor md ops k j=true)→Res j v' w→Res j v' w')→Res i v w'→K ((F x).put o.dst v) w')→wpOp P ops Q i K (F x) w
theorem flowJ_go (F:(Nat→Value)→Act) (Res:Nat→Value→World→Prop) (J:(Nat→Bool)→(Nat→Value)→World→Prop) (hback:backB md ops=true) (hapart:apartB ops=true)
  (hJ:∀ ℓ ℓ' x w,(∀ n,n<ops.size→ℓ n=ℓ' n)→J ℓ x w→J ℓ' x w)
  (hput:∀ (i:Nat) (o:Oper) (d:Nat),ops[i]?=some o→o.dst=some d→∀ x v,(F x).put (some d) v=F (upd x d v))
  (step:∀ (i:Nat) (o:Oper),ops[i]?=some o→FlowStep P md ops Q F Res J i o)
  (done:∀ ℓ x w,(∀ i,i<ops.size→ℓ i=true)→J ℓ x w→Q .normal (F x) w) :
  ∀ (fuel:Nat) (U:List Nat) (listed:Array Bool) (x:Nat→Value) (w:World),listed.size=ops.size→U.length≤fuel→(∀ i,i<ops.size→listed.getD i false=true∨i∈U)→FlowJ md ops Res J (fun n=>listed.getD n false) x w→wpAny P md ops Q fuel listed (F x) w:=by
 have all_done:∀ (listed:Array Bool) (x:Nat→Value) (w:World),(∀ i,i<ops.size→listed.getD i false=true)→FlowJ md ops Res J (fun n=>listed.getD n false) x w→Q .normal (F x) w:=fun listed x w hall hI=>done _ x w hall hI.j
 have none_left:∀ (listed:Array Bool),listed.size=ops.size→Region.ready md ops listed=[]→∀ i,i<ops.size→listed.getD i false=true:=by
  intro listed hsz hr i
  induction i using Nat.strongRecOn with
  | _ i ih =>
   intro hi
   cases hl:listed.getD i false with
   | true=>rfl
   | false =>
    have hm:i∈Region.ready md ops listed:=by
     obtain ⟨o,ho⟩:∃ o,ops[i]?=some o:=⟨ops[i],Array.getElem?_eq_getElem hi⟩
     exact mem_ready.2 ⟨getD_in (by rw [hsz];exact hi) hl,o,ho,fun e he hb=>by
      have hlt:=backB_spec hback ho e he hb
      exact ih e.on hlt (by omega)⟩
    rw [hr] at hm
    cases hm
 intro fuel
 induction fuel with
 | zero =>
  intro U listed x w hsz hU hL hI
  have hU0:U=[]:=List.length_eq_zero_iff.1 (Nat.le_zero.1 hU)
  subst hU0
  have hall:∀ i,i<ops.size→listed.getD i false=true:=fun i hi=>(hL i hi).resolve_right (by simp)
  refine ⟨?_,all_done listed x w hall hI⟩
  cases hr:Region.ready md ops listed with
  | nil=>rfl
  | cons j rest =>
   obtain ⟨h1,o,ho,_⟩:=mem_ready.1 (by rw [hr];exact List.mem_cons_self:j∈Region.ready md ops listed)
   have:=hall j (Array.getElem?_eq_some_iff.1 ho).1
   rw [getD_both h1] at this
   cases this
 | succ fuel ih =>
  intro U listed x w hsz hU hL hI
  refine ⟨fun hr=>all_done listed x w (none_left listed hsz hr) hI,fun i hi=>?_⟩
  obtain ⟨hun,o,ho,hall⟩:=mem_ready.1 hi
  have hil:i<ops.size:=(Array.getElem?_eq_some_iff.1 ho).1
  have hlf:listed.getD i false=false:=getD_both hun
  have hiU:i∈U:=(hL i hil).resolve_left (by rw [hlf];simp)
  have hdeps:∀ j,Region.waitsFor md ops i j=true→listed.getD j false=true:=fun j hw=>by
   obtain ⟨oi,hoi,e,he,hb,hon⟩:=Region.waitsFor_spec hw
   have:oi=o:=Option.some.inj (hoi.symm.trans ho)
   subst this
   rw [← hon]
   exact hall e he hb
  refine step i o ho (fun n=>listed.getD n false) x w hI.j hlf (fun f k hu=>shut_up hI.shut f k i hu hlf) (shut_down hI.shut hdeps) (fun j hw o' d' ho' hd'=>hI.res j o' d' ho' hd' (hdeps j hw) ⟨i,hlf,hw⟩) _ ?_
  intro v w' hj hkeep hres
  have hset:∀ n,n<ops.size→setB (fun n=>listed.getD n false) i n=(listed.setIfInBounds i true).getD n false:=fun n hn=>by
   unfold setB
   by_cases e:n=i
   ·subst e
    rw [if_pos rfl,Array.getD_eq_getD_getElem?,Array.getElem?_setIfInBounds_self_of_lt (by rw [hsz];exact hil)]
    rfl
   ·rw [if_neg e,getD_set_ne false (fun q=>e q.symm)]
  have hset2:∀ n,(listed.setIfInBounds i true).getD n false=true→n=i∨listed.getD n false=true:=fun n h=>by
   by_cases e:n=i
   ·exact .inl e
   ·rw [getD_set_ne false (fun q=>e q.symm)] at h
    exact .inr h
  have hset3:∀ n,listed.getD n false=true→(listed.setIfInBounds i true).getD n false=true:=fun n h=>by
   by_cases e:n=i
   ·subst e;rw [hlf] at h;cases h
   ·rw [getD_set_ne false (fun q=>e q.symm)]
    exact h
  have hL':∀ j,j<ops.size→(listed.setIfInBounds i true).getD j false=true∨j∈U.erase i:=fun j hj=>by
   by_cases e:j=i
   ·subst e
    left
    rw [Array.getD_eq_getD_getElem?,Array.getElem?_setIfInBounds_self_of_lt (by rw [hsz];exact hil)]
    rfl
   ·rcases hL j hj with h | h
    ·exact .inl (hset3 j h)
    ·exact .inr ((List.mem_erase_of_ne e).2 h)
  have hlen:(U.erase i).length≤fuel:=by rw [List.length_erase_of_mem hiU];omega
  have hj':J (fun n=>(listed.setIfInBounds i true).getD n false) (putX x o.dst v) w':=hJ _ _ _ _ hset hj
  have hshut':Shut md ops (fun n=>(listed.setIfInBounds i true).getD n false):=fun k j hk hw=>by
   rcases hset2 k hk with e | e
   ·subst e;exact hset3 j (hdeps j hw)
   ·exact hset3 j (hI.shut k j e hw)
  have hres':∀ (x':Nat→Value),(∀ j o' d',ops[j]?=some o'→o'.dst=some d'→j≠i→x' d'=x d')→(∀ d,o.dst=some d→x' d=v)→∀ (j:Nat) (o':Oper) (d':Nat),ops[j]?=some o'→o'.dst=some d'→(listed.setIfInBounds i true).getD j false=true→(∃ k,(listed.setIfInBounds i true).getD k false=false∧Region.waitsFor md ops k j=true)→Res j (x' d') w':=by
   intro x' hx1 hx2 j o' d' ho' hd' hlj hpend
   by_cases e:j=i
   ·subst e
    have:o'=o:=Option.some.inj (ho'.symm.trans ho)
    subst this
    rw [hx2 d' hd']
    exact hres
   ·rw [hx1 j o' d' ho' hd' e]
    have hlj2:=(hset2 j hlj).resolve_left e
    obtain ⟨k,hk,hkw⟩:=hpend
    have hki:k≠i:=fun q=>by
     subst q
     rw [Array.getD_eq_getD_getElem?,Array.getElem?_setIfInBounds_self_of_lt (by rw [hsz];exact hil)] at hk
     cases hk
    rw [getD_set_ne false (fun q=>hki q.symm)] at hk
    exact hkeep j _ hlj2 ⟨k,hki,hk,hkw⟩ (hI.res j o' d' ho' hd' hlj2 ⟨k,hk,hkw⟩)
  cases hd:o.dst with
  | none =>
   rw [hd] at hj'
   rw [show (F x).put none v=F x from rfl]
   exact ih (U.erase i) _ x w' (by simpa using hsz) hlen hL' ⟨hj',hshut',hres' x (fun _ _ _ _ _ _=>rfl) (fun d q=>by rw [hd] at q;cases q)⟩
  | some d =>
   rw [hd] at hj'
   rw [hput i o d ho hd]
   refine ih (U.erase i) _ _ w' (by simpa using hsz) hlen hL' ⟨hj',hshut',hres' (upd x d v) (fun j o' d' ho' hd' hne=>upd_other x v (apartB_spec hapart ho' ho hd' hd hne)) (fun d' q=>?_)⟩
   rw [hd] at q
   obtain rfl:=Option.some.inj q
   exact upd_same _ _ _
def JA (A S:Nat) (w0:World) (Final:(Nat→Value)→World→Prop) (ℓ:Nat→Bool) (x:Nat→Value) (z:World):Prop:=(ℓ A=false→Below w0.heap.size w0 z)∧(ℓ S=true→Final x z)
theorem ja_cong {A S:Nat} {w0:World} {Final:(Nat→Value)→World→Prop} (hA:A<ops.size) (hS:S<ops.size) (ℓ ℓ':Nat→Bool) (x:Nat→Value) (w:World) (h:∀ n,n<ops.size→ℓ n=ℓ' n) (hj:JA A S w0 Final ℓ x w):JA A S w0 Final ℓ' x w:=⟨fun q=>hj.1 ((h A hA).trans q),fun q=>hj.2 ((h S hS).trans q)⟩
theorem ja_start {A S:Nat} {w0:World} {Final:(Nat→Value)→World→Prop} (hS:S<ops.size) {x:Nat→Value} (ℓ:Nat→Bool) (h:∀ n,n<ops.size→ℓ n=false):JA A S w0 Final ℓ x w0.drew:=⟨fun _=>(Below.refl _ _).drew,fun q=>by rw [h S hS] at q;cases q⟩
theorem ja_plain {A S i:Nat} {w0 w w':World} {Final:(Nat→Value)→World→Prop} {ℓ:Nat→Bool} {x x':Nat→Value} (hj:JA A S w0 Final ℓ x w) (hA:i≠A) (hS:i≠S) (hS2:ℓ S=false) (hb:Below w.heap.size w w'):JA A S w0 Final (setB ℓ i) x' w':=by
 refine ⟨fun q=>?_,fun q=>?_⟩
 ·rw [setB,if_neg (fun e=>hA e.symm)] at q
  have h1:=hj.1 q
  exact h1.trans (hb.mono h1.size)
 ·rw [setB,if_neg (fun e=>hS e.symm),hS2] at q
  cases q
theorem ja_mid {A S:Nat} {w0 w':World} {Final:(Nat→Value)→World→Prop} {ℓ:Nat→Bool} {x:Nat→Value} (hAS:S≠A) (hS2:ℓ S=false):JA A S w0 Final (setB ℓ A) x w':=by
 refine ⟨fun q=>?_,fun q=>?_⟩
 ·rw [setB,if_pos rfl] at q;cases q
 ·rw [setB,if_neg hAS,hS2] at q;cases q
theorem ja_last {A S:Nat} {w0 w':World} {Final:(Nat→Value)→World→Prop} {ℓ:Nat→Bool} {x:Nat→Value} (hA:A=S∨ℓ A=true) (hf:Final x w'):JA A S w0 Final (setB ℓ S) x w':=by
 refine ⟨fun q=>?_,fun _=>hf⟩
 unfold setB at q
 by_cases e:A=S
 ·rw [if_pos e] at q;cases q
 ·rw [if_neg e,hA.resolve_left e] at q;cases q
def lastB (md:Region.Mode) (ops:Array Oper) (i:Nat):Bool:=(List.range ops.size).all fun k=>decide (k=i)||upB md ops 3 i k
theorem lastB_spec {i:Nat} (h:lastB md ops i=true) {ℓ:Nat→Bool} (hd:∀ f k,upB md ops f i k=true→ℓ k=true) {j:Nat}:¬ ∃ k,k≠i∧ℓ k=false∧Region.waitsFor md ops k j=true:=by
 rintro ⟨k,hk,hl,hw⟩
 obtain ⟨ok,hok,_⟩:=Region.waitsFor_spec hw
 have h1:=List.all_eq_true.1 h k (List.mem_range.2 (Array.getElem?_eq_some_iff.1 hok).1)
 rw [Bool.or_eq_true,decide_eq_true_eq] at h1
 rw [hd 3 k (h1.resolve_left hk)] at hl
 cases hl
theorem wp_region_flowJ {id:Nat} (F:(Nat→Value)→Act) (Res:Nat→Value→World→Prop) (J:(Nat→Bool)→(Nat→Value)→World→Prop) {a:Act} (x0:Nat→Value) {w:World} (ha:a=F x0) (hm:P.follows .mixedOrders=true) (hback:backB .any ops=true) (hapart:apartB ops=true)
  (start:∀ ℓ,(∀ n,n<ops.size→ℓ n=false)→J ℓ x0 w.drew)
  (hJ:∀ ℓ ℓ' x w,(∀ n,n<ops.size→ℓ n=ℓ' n)→J ℓ x w→J ℓ' x w)
  (hput:∀ (i:Nat) (o:Oper) (d:Nat),ops[i]?=some o→o.dst=some d→∀ x v,(F x).put (some d) v=F (upd x d v))
  (step:∀ (i:Nat) (o:Oper),ops[i]?=some o→FlowStep P .any ops Q F Res J i o)
  (done:∀ ℓ x w,(∀ i,i<ops.size→ℓ i=true)→J ℓ x w→Q .normal (F x) w):(Code.region id ops true).wp P Q a w:=by
 subst ha
 refine wp_region_any hm ?_
 have h0:∀ n,(Array.replicate ops.size false).getD n false=false:=fun n=>by
  cases h:(Array.replicate ops.size false).getD n false with
  | false=>rfl
  | true=>rw [getD_replicate_false] at h;cases h
 refine flowJ_go F Res J hback hapart hJ hput step done ops.size (List.range ops.size) _ x0 _ (by simp) (by simp) (fun i hi => .inr (List.mem_range.2 hi)) ⟨start _ (fun n _=>h0 n),fun k j hk _=>?_,fun i o d _ _ hl=>?_⟩
 ·rw [h0] at hk;cases hk
 ·rw [h0] at hl;cases hl
end
theorem wp_normal {P:Program} {c:Code} {Q:Exit→Act→World→Prop} {a:Act} {w:World} (h:c.wp P (Exit.then (fun a w=>Q .normal a w) (fun _ _ _=>False)) a w):c.wp P Q a w:=by
 refine Code.wp_mono ?_ h
 intro e a' w' hq
 cases e with
 | normal=>exact hq
 | exit id=>exact hq.elim
 | goto l=>exact hq.elim
 | ret=>exact hq.elim
 | panic ch=>exact hq.elim
 | outgrown=>exact hq.elim
section
variable {P : Program} {md : Region.Mode} {ops : Array Oper}
def JB (A S:Nat) (w0:World) (Mid:World→Prop) (Final:World→Prop) (ℓ:Nat→Bool) (_x:Nat→Value) (z:World):Prop:=(ℓ A=false→Below w0.heap.size w0 z)∧(ℓ A=true→ℓ S=false→Mid z)∧(ℓ S=true→Final z)
theorem jb_cong {A S:Nat} {w0:World} {Mid Final:World→Prop} (hA:A<ops.size) (hS:S<ops.size) (ℓ ℓ':Nat→Bool) (x:Nat→Value) (w:World) (h:∀ n,n<ops.size→ℓ n=ℓ' n) (hj:JB A S w0 Mid Final ℓ x w):JB A S w0 Mid Final ℓ' x w :=
 ⟨fun q=>hj.1 ((h A hA).trans q),fun q r=>hj.2.1 ((h A hA).trans q) ((h S hS).trans r),fun q=>hj.2.2 ((h S hS).trans q)⟩
theorem jb_start {A S:Nat} {w0:World} {Mid Final:World→Prop} (hA:A<ops.size) (hS:S<ops.size) {x:Nat→Value} (ℓ:Nat→Bool) (h:∀ n,n<ops.size→ℓ n=false):JB A S w0 Mid Final ℓ x w0.drew :=
 ⟨fun _=>(Below.refl _ _).drew,(fun q=>by rw [h A hA] at q;cases q),(fun q=>by rw [h S hS] at q;cases q)⟩
theorem jb_plain {A S i:Nat} {w0 w w':World} {Mid Final:World→Prop} {ℓ:Nat→Bool} {x x':Nat→Value} (hM:∀ w w',Mid w→Below w.heap.size w w'→Mid w') (hj:JB A S w0 Mid Final ℓ x w) (hA:i≠A) (hS:i≠S) (hS2:ℓ S=false) (hb:Below w.heap.size w w'):JB A S w0 Mid Final (setB ℓ i) x' w':=by
 refine ⟨fun q=>?_,fun q _=>?_,fun q=>?_⟩
 ·rw [setB,if_neg (fun e=>hA e.symm)] at q
  have h1:=hj.1 q
  exact h1.trans (hb.mono h1.size)
 ·rw [setB,if_neg (fun e=>hA e.symm)] at q
  exact hM _ _ (hj.2.1 q hS2) hb
 ·rw [setB,if_neg (fun e=>hS e.symm),hS2] at q
  cases q
theorem jb_mid {A S:Nat} {w0 w':World} {Mid Final:World→Prop} {ℓ:Nat→Bool} {x:Nat→Value} (hAS:S≠A) (hS2:ℓ S=false) (hm:Mid w'):JB A S w0 Mid Final (setB ℓ A) x w':=by
 refine ⟨fun q=>?_,fun _ _=>hm,fun q=>?_⟩
 ·rw [setB,if_pos rfl] at q;cases q
 ·rw [setB,if_neg hAS,hS2] at q;cases q
theorem jb_last {A S:Nat} {w0 w':World} {Mid Final:World→Prop} {ℓ:Nat→Bool} {x:Nat→Value} (hAS:A≠S) (hA:ℓ A=true) (hf:Final w'):JB A S w0 Mid Final (setB ℓ S) x w':=by
 refine ⟨fun q=>?_,fun _ q=>?_,fun _=>hf⟩
 ·rw [setB,if_neg hAS,hA] at q;cases q
 ·rw [setB,if_pos rfl] at q;cases q
end
end Go.Proofs.YteflhbfgpknabaaGreatDoor
