/-
  A part of the proof: VQ,VR,WI,ZA,VO.
-/
import Derived.Test.YteflhbfgpknabaaGreatDoorB01
import Derived.Test.YteflhbfgpknabaaGreatDoorL23
import Derived.Test.YteflhbfgpknabaaGreatDoorB03
import Derived.Test.YteflhbfgpknabaaGreatDoorB02
import Derived.Test.YteflhbfgpknabaaGreatDoorL24
import Derived.Test.YteflhbfgpknabaaGreatDoorL07
import Derived.Test.YteflhbfgpknabaaGreatDoorL12
import Derived.Test.YteflhbfgpknabaaGreatDoorL21
set_option maxRecDepth 100000
set_option maxHeartbeats 12800000
namespace Go.Proofs.YteflhbfgpknabaaGreatDoor
open Go.Lib (hid)
open Go.RowKit Go.Shelf
def DifE (S:Sp) (B:(Th→Int)→Pp→Bool) (F:List Ft) (L:List Tl) (w:World) (e:Ending) (w':World):Prop:=∃ (n:Int) (p:Pp),e = .returned (.tuple #[.int .i64 n,.agg #[.int .i64 p.1,.int .i64 p.2]])∧n=failI S B F L∧(0≤n→∃ t∈L,p∈allFrom 0 S.rs∧hearB B F (onH t.h) p≠decide (p∈t.l))∧Below w.heap.size w w'
theorem badB_at {S:Sp} {B:(Th→Int)→Pp→Bool} {F:List Ft} {L:List Tl} {i:Nat} (hi:i<L.length):badB S B F L i=!decide (hearL S B F (onH L[i].h)=L[i].l):=by
 unfold badB
 rw [List.getElem?_eq_getElem hi]
theorem failI_here {S:Sp} {B:(Th→Int)→Pp→Bool} {F:List Ft} {L:List Tl} {i:Nat} (hi:i<L.length) (h0:∀ j,j<i→badB S B F L j=false) (h:hearL S B F (onH L[i].h)≠L[i].l):failI S B F L=i :=
 fstI_at h0 (by rw [badB_at hi,decide_eq_false h];rfl) hi
theorem failI_end {S:Sp} {B:(Th→Int)→Pp→Bool} {F:List Ft} {L:List Tl} (h0:∀ j,j<L.length→badB S B F L j=false):failI S B F L = -1:=fstI_none.2 h0
theorem hear_more {S:Sp} {B:(Th→Int)→Pp→Bool} {F:List Ft} {f:Th→Int} {l:List Pp} {p:Pp} (hp:p∈l) (ha:p∈allFrom 0 S.rs) (hn:p ∉ hearL S B F f):hearB B F f p≠decide (p∈l)∧hearL S B F f≠l:=by
 refine ⟨fun h=>hn ?_,fun h=>hn (by rw [h];exact hp)⟩
 rw [decide_eq_true hp] at h
 exact List.mem_filter.2 ⟨ha,h⟩
theorem hear_less {S:Sp} {B:(Th→Int)→Pp→Bool} {F:List Ft} {f:Th→Int} {l:List Pp} {p:Pp} (hp:p ∉ l) (hm:p∈hearL S B F f):p∈allFrom 0 S.rs∧hearB B F f p≠decide (p∈l)∧hearL S B F f≠l:=by
 obtain ⟨h1,h2⟩:=List.mem_filter.1 hm
 refine ⟨h1,?_,fun h=>hp (by rw [← h];exact hm)⟩
 rw [decide_eq_false hp,h2]
 decide
def lftD (m l:List Pp) (k:Nat):List Pp:=m.filter fun p=>!decide (p∈l.take k)
theorem lftD_zero (m l:List Pp):lftD m l 0=m:=by unfold lftD;rw [List.filter_eq_self];intro p _;simp
theorem lftD_next {m l:List Pp} {k:Nat} (hk:k<l.length):(lftD m l k).filter (fun y=>!decide (y=l[k]))=lftD m l (k+1):=by
 unfold lftD
 rw [List.filter_filter]
 refine List.filter_congr fun p _=>?_
 have hm:(p∈l.take (k+1))↔(p∈l.take k∨p=l[k]):=by rw [List.take_succ_eq_append_getElem hk,List.mem_append,List.mem_singleton]
 by_cases h1:p∈l.take k
 ·rw [decide_eq_true h1,decide_eq_true (hm.2 (.inl h1)),Bool.not_true,Bool.and_false]
 ·by_cases h2:p=l[k]
  ·rw [decide_eq_true h2,decide_eq_true (hm.2 (.inr h2)),Bool.not_true,Bool.false_and]
  ·rw [decide_eq_false h1,decide_eq_false h2,decide_eq_false (fun h=>(hm.1 h).elim h1 h2)];rfl
theorem lftD_mem {m l:List Pp} {k:Nat} (hk:k<l.length) (hl:l.Pairwise ppLt):l[k]∈lftD m l k↔l[k]∈m:=by
 unfold lftD
 rw [List.mem_filter]
 refine ⟨fun h=>h.1,fun h=>⟨h,?_⟩⟩
 rw [Bool.not_eq_true',decide_eq_false_iff_not]
 intro h2
 obtain ⟨j,hj,e⟩:=List.getElem_of_mem h2
 rw [List.length_take] at hj
 rw [List.getElem_take] at e
 have:=List.pairwise_iff_getElem.1 hl j k (by omega) hk (by omega)
 rw [e] at this
 unfold ppLt at this
 omega
theorem lftD_all {m l:List Pp} {p:Pp}:p∈lftD m l l.length↔p∈m∧p ∉ l:=by
 unfold lftD
 rw [List.mem_filter,List.take_length,Bool.not_eq_true',decide_eq_false_iff_not]
theorem pps_len {l m:List Pp} (hl:l.Pairwise ppLt) (hm:m.Pairwise ppLt) (h:∀ p∈l,p∈m):l.length≤m.length:=by
 have e:l=m.filter fun p=>decide (p∈l):=asc_ext hl (hm.filter _) fun p=>by rw [List.mem_filter,decide_eq_true_iff];exact ⟨fun q=>⟨h p q,q⟩,fun q=>q.2⟩
 rw [e]
 exact List.length_filter_le _ _
theorem pps_nodup {l:List Pp} (h:l.Pairwise ppLt):l.Nodup:=h.imp fun {a b} h e=>by subst e;unfold ppLt at h;omega
theorem lftD_nodup {m:List Pp} (h:m.Pairwise ppLt) (l':List Pp) (k:Nat):(lftD m l' k).Nodup:=(pps_nodup h).filter _
theorem results_tmp_cell {fn:Func} {p u:Tmp} {ty:TypeId} (h:fn.results=#[.tmp u,.cell p ty]) (tmps:Array Value) (P:Program) (w:World) :
  (results fn tmps).run P w=((asAddr (tmps.getD p undef)).run P w).andThen fun a w₁=>((loadVar ty a).run P w₁).andThen fun v w₂ => .ok (.tuple #[tmps.getD u undef,v]) w₂:=by
 simp only [results,h]
 simp [Sem.run_bind,Result.andThen]
theorem results_tmp_row {P:Program} {fn:Func} {p u:Tmp} {ty:TypeId} (h:fn.results=#[.tmp u,.cell p ty]) (tmps:Array Value) (w:World) (g:Nat) (t:TypeId) (cs:Array Value) (fr:Nat × Nat) (d:TypeDesc)
  (hp:tmps.getD p undef = .pointer (some ⟨g,0,none⟩)) (hg:w.heap[g]?=some (.cells cs t fr))
  (hu:P.underlying ty=some d) (hd:(match d with | .struct _ | .array _ _=>true | _=>false)=true) (hi:(P.info? ty).map (·.size)=some cs.size) :
  (results fn tmps).run P w = .ok (.tuple #[tmps.getD u undef,.agg cs]) w:=by
 have hp':tmps[p]?.getD undef = .pointer (some ⟨g,0,none⟩):=by simpa using hp
 rw [results_tmp_cell h]
 simp [hp',asAddr,run_loadVar_row w g t ty cs fr d hg hu hd hi,Result.andThen]
theorem pp_size2 {n:Nat} (h:n=2):(Tryz.prog.info? 78).map (·.size)=some n:=by subst h;kernel_rfl
structure DfW (w:World) (X:Nat) (v1 v2 v3 v4:Value) (tc:Array Value) (D:List Pp) (W:World):Prop where
 b:Below w.heap.size w W
 sp:Blk W w.heap.size 27 #[v1,v2,v3,v4]
 rs:Blk W (w.heap.size+1) 78 #[.int .i64 0,.int .i64 0]
 tr:Blk W X 58 tc
 mp:Mp ekP W (X+1) (setU D)
 lt:w.heap.size<X
theorem DfW.later {w W W':World} {X:Nat} {v1 v2 v3 v4:Value} {tc:Array Value} {D:List Pp} (h:DfW w X v1 v2 v3 v4 tc D W) (hb:Below W.heap.size W W'):DfW w X v1 v2 v3 v4 tc D W':=⟨below_step h.b hb,h.sp.below hb,h.rs.below hb,h.tr.below hb,h.mp.below hb,h.lt⟩
theorem mp_blk_ne {κ:Type} {ek:κ→Value} {W:World} {b B:Nat} {l:List (κ × Value)} {t:TypeId} {cs:Array Value} (h:Mp ek W b l) (hb:Blk W B t cs):b≠B:=by
 rintro rfl
 obtain ⟨es,clock,h1,_⟩:=h
 rw [show W.heap[b]?=_ from hb] at h1
 cases h1
theorem rg_blk_ne {κ:Type} {ek:κ→Value} {W:World} {b r B:Nat} {l left:List (κ × Value)} {t:TypeId} {cs:Array Value} (h:Rg ek W b r l left) (hb:Blk W B t cs):r≠B:=by
 rintro rfl
 obtain ⟨es,clock,since,seen,c0,h1,h2,h3,h4,h5,h6,h7,h8⟩:=h
 have hb':W.heap[r]?=_:=hb
 simp_all
theorem mp_not {κ:Type} {ek:κ→Value} {W:World} {b:Nat} {l:List (κ × Value)} (h:Mp ek W b l):∀ r,some b=some r→∃ o:Obj,W.heap[r]?=some o∧o.isCells=false:=by
 rintro r e
 cases e
 obtain ⟨es,clock,h1,_⟩:=h
 exact ⟨_,h1,rfl⟩
theorem DfW.upd {w W W':World} {X:Nat} {v1 v2 v3 v4:Value} {tc:Array Value} {D D':List Pp} (h:DfW w X v1 v2 v3 v4 tc D W) (hm:Mp ekP W' (X+1) (setU D')) (hg:W.grownBy W' (some (X+1))):DfW w X v1 v2 v3 v4 tc D' W' :=
 ⟨h.b.grown hg h.b.size (fun k e=>by cases e;have:=h.lt;omega),h.sp.grown hg (fun e=>mp_blk_ne h.mp h.sp (Option.some.inj e)),h.rs.grown hg (fun e=>mp_blk_ne h.mp h.rs (Option.some.inj e)),h.tr.grown hg (fun e=>mp_blk_ne h.mp h.tr (Option.some.inj e)),hm,h.lt⟩
theorem differs_any (v1 v2 v3 v4:Value) (S:Sp) (ok:SpWk S) (hc:(checkP S).2=0) (fp:Nat→Value) (fv:Value) (F:List Ft) (hF:FtsOk S F) (hFl:F.length≤10) (L:List Tl) (hL:∀ t∈L,HnOk S t.h∧t.l.Pairwise ppLt∧∀ p∈t.l,p∈allFrom 0 S.rs) (hll:L.length≤1000000) (tv:Value) (gk gs gc gh:Nat→Value) (B:(Th→Int)→Pp→Bool) (hB:SndIs S B) (w:World) (hD:Deb w) (ht:Tabs w) (hsp:SpRd w v1 v2 v3 v4 fp S) (hcap:∀ i,i<S.ss.length→CapOk (fp i)) (htv:TlRd w tv L gk gs gc gh) (hfv:ARd w fv 3 (F.map ftC)) :
  Calls Tryz.prog 39 #[.agg #[v1,v2,v3,v4],fv,tv] w (DifE S B F L w):=by
 obtain ⟨at',ct,ev⟩:=htv.form
 subst ev
 obtain ⟨af,cf,ev⟩:=hfv.ftForm
 subst ev
 have HT:=hid htv
 have HLL:=hid hL
 have HHE:=hid (fun (i:Nat) (hi:i<L.length) (W:World) (hb:Below w.heap.size w W)=>hearsD_any v1 v2 v3 v4 S ok hc fp (gk i) (gs i) (gc i) (.slice af F.length cf) L[i].h (hL _ (List.getElem_mem hi)).1 F hF hFl B hB W (hD.below hb) (ht.below hb) (hsp.later hb) hcap ((htv.later hb).hd i hi) (hfv.later hb))
 have HLN:=hid (show ∀ f,(hearL S B F f).length≤4000 from fun f=>Nat.le_trans (List.length_filter_le _ _) (by
  have h1:=allFrom_len (spGood hc).r 0
  have h2:=sp_lens hc
  omega))
 have HAL:=hid (show (allFrom 0 S.rs).length≤4000 from by
  have h1:=allFrom_len (spGood hc).r 0
  have h2:=sp_lens hc
  omega)
 have HB0:=hid (below_two w (.cells #[v1,v2,v3,v4] 27) (.cells #[.int .i64 0,.int .i64 0] 78))
 have K0:=hid ((Blk.new w 27 #[v1,v2,v3,v4]).alloc (.cells #[.int .i64 0,.int .i64 0] 78))
 have k1:=Blk.new (w.alloc (.cells #[v1,v2,v3,v4] 27)) 78 #[.int .i64 0,.int .i64 0]
 rw [World.size_alloc] at k1
 have K1:=hid k1
 have HN0:=hid (show ∀ j,j<0→badB S B F L j=false from fun j h=>absurd h (Nat.not_lt_zero _))
 clear k1 htv hL ok hc hF hFl hB hD ht hsp hcap hfv
 have hmm:=@run_makeMap Tryz.prog
 go_enter Tryz.func39,Tryz.ntmps39
 go_wp2
 generalize (w.alloc (.cells #[v1,v2,v3,v4] 27)).alloc (.cells #[.int .i64 0,.int .i64 0] 78)=W0 at *
 go_loopw [20] (fun x wr=>∃ i:Nat,i≤L.length∧x = .int .i64 i∧Hid (∀ j,j<i→badB S B F L j=false)∧Hid (Below w.heap.size w wr)∧Hid (Blk wr w.heap.size 27 #[v1,v2,v3,v4])∧Hid (Blk wr (w.heap.size+1) 78 #[.int .i64 0,.int .i64 0])) (fun x _=>L.length-(intOf x).toNat)
 case atStart=>exact ⟨0,Nat.zero_le _,rfl,HN0,HB0,K0,K1⟩
 clear HN0 HB0 K0 K1
 obtain ⟨i,hi,rfl,hN,hB,hK,hR⟩:=hrel
 by_cases hil:i<L.length
 ·have hi2:(i:Int)<(L.length:Int):=by omega
  obtain ⟨b,o,c',ev,hbl,q0,q1,q2,q3⟩:=(HT.out.later hB.out).at' hil
  cases ev
  obtain ⟨_,hlp,hla⟩:=HLL.out _ (List.getElem_mem hil)
  have HTH:=hid (fun (W:World) (hb:Below w.heap.size w W)=>(HT.out.later hb).pp i hil)
  have HCH:=hid (HHE.out i hil)
  obtain ⟨⟨ka,kc,ek⟩,⟨sa,sc,es⟩,⟨ca,cc,ec⟩⟩:=((HT.out.later hB.out).hd i hil).forms
  obtain ⟨pa,pc,ep⟩:=((HT.out.later hB.out).pp i hil).form
  rw [List.length_map] at ep
  have HFE:=hid (fun (h:hearL S B F (onH L[i].h)≠L[i].l)=>failI_here hil hN.out h)
  have HNX:=hid (fun (h:hearL S B F (onH L[i].h)=L[i].l)=>show ∀ j,j<i+1→badB S B F L j=false from fun j hj=>by
   by_cases e:j=i
   ·subst e;rw [badB_at hil,decide_eq_true h];rfl
   ·exact hN.out j (by omega))
  have HTM:=hid (List.getElem_mem hil)
  rw [ek] at q0 HCH
  rw [es] at q1 HCH
  rw [ec] at q2 HCH
  rw [ep] at q3 HTH
  obtain ⟨x,hx⟩:∃ x,L[i]=x:=⟨_,rfl⟩
  rw [hx] at HTH HCH HFE HNX HTM q0 q1 q2 q3 hlp hla
  have hxl:x.l.length≤4000:=Nat.le_trans (pps_len hlp (asc_allFrom 0 S.rs) hla) HAL.out
  have HLP:=hid hlp
  have HLA:=hid hla
  have hml:=HLN.out (onH x.h)
  have HMP:=hid (hearL_asc S B F (onH x.h)).1
  have HMO:=hid (fun (p:Pp) (h1:p∈x.l) (h2:p ∉ hearL S B F (onH x.h))=>hear_more (B:=B) (F:=F) (f:=onH x.h) h1 (hla p h1) h2)
  have HLE:=hid (fun (p:Pp) (h1:p ∉ x.l) (h2:p∈hearL S B F (onH x.h))=>hear_less (S:=S) (B:=B) (F:=F) (f:=onH x.h) h1 h2)
  obtain ⟨m,hm⟩:∃ m,hearL S B F (onH x.h)=m:=⟨_,rfl⟩
  rw [hm] at HCH HFE HNX hml HMP HMO HLE
  clear hx hm ek es ec ep hlp hla hN
  go_upto_region 5 with fail
  have hba:Below wr.heap.size wr (wr.alloc (.cells #[.slice ka x.h.ks.length kc,.slice sa x.h.ss.length sc,.slice ca x.h.cs.length cc,.slice pa x.l.length pc] 58)):=(Below.refl _ wr).alloc (Nat.le_refl _) _
  have hbm:Below wr.heap.size wr ((wr.alloc (.cells #[.slice ka x.h.ks.length kc,.slice sa x.h.ss.length sc,.slice ca x.h.cs.length cc,.slice pa x.l.length pc] 58)).alloc (.map #[] 0)):=hba.alloc (by simp) _
  have hmade:Mp ekP ((wr.alloc (.cells #[.slice ka x.h.ks.length kc,.slice sa x.h.ss.length sc,.slice ca x.h.cs.length cc,.slice pa x.l.length pc] 58)).alloc (.map #[] 0)) (wr.heap.size+1) (setU []):=by
   have:=Mp.made (ek:=ekP) (wr.alloc (.cells #[.slice ka x.h.ks.length kc,.slice sa x.h.ss.length sc,.slice ca x.h.cs.length cc,.slice pa x.l.length pc] 58))
   rw [World.size_alloc] at this
   exact this
  have HW:=hid (show DfW w wr.heap.size v1 v2 v3 v4 #[.slice ka x.h.ks.length kc,.slice sa x.h.ss.length sc,.slice ca x.h.cs.length cc,.slice pa x.l.length pc] [] _ from ⟨below_step hB.out hbm,hK.out.below hbm,hR.out.below hbm,(Blk.new wr 58 #[.slice ka x.h.ks.length kc,.slice sa x.h.ss.length sc,.slice ca x.h.cs.length cc,.slice pa x.l.length pc]).alloc _,hmade,hK.out.lt⟩)
  obtain ⟨X,hX⟩:∃ X,wr.heap.size=X:=⟨_,rfl⟩
  rw [hX] at HW ⊢
  generalize (wr.alloc (.cells #[.slice ka x.h.ks.length kc,.slice sa x.h.ss.length sc,.slice ca x.h.cs.length cc,.slice pa x.l.length pc] 58)).alloc (.map #[] 0)=W5 at *
  have HBX:=hid hB.out
  clear hba hbm hmade hX hB hK hR q0 q1 q2 q3
  obtain ⟨s0,s1,s2,s3⟩:=HW.out.sp.four
  obtain ⟨y0,y1,y2⟩:W5.cell? ⟨X,0,none⟩=some (.slice ka x.h.ks.length kc)∧W5.cell? ⟨X,1,none⟩=some (.slice sa x.h.ss.length sc)∧W5.cell? ⟨X,2,none⟩=some (.slice ca x.h.cs.length cc):=⟨HW.out.tr.cell 0,HW.out.tr.cell 1,HW.out.tr.cell 2⟩
  go_wp2_with fail
  refine (HCH.out W5 HW.out.b).mono ?_
  rintro e W6 ⟨u,rfl,hrow,hb6⟩
  have HR6:=hid (row_base hrow HW.out.b.size)
  obtain ⟨ua,un,rfl⟩:=own_form hrow
  have HW6:=hid (show DfW w X v1 v2 v3 v4 #[.slice ka x.h.ks.length kc,.slice sa x.h.ss.length sc,.slice ca x.h.cs.length cc,.slice pa x.l.length pc] (m.take 0) W6 from HW.out.later hb6)
  clear hrow hb6 HW HCH s0 s1 s2 s3 y0 y1 y2
  go_wp2
  go_loopw [32] (fun v wr=>∃ k:Nat,k≤m.length∧v = .int .i64 k∧Hid (DfW w X v1 v2 v3 v4 #[.slice ka x.h.ks.length kc,.slice sa x.h.ss.length sc,.slice ca x.h.cs.length cc,.slice pa x.l.length pc] (m.take k) wr)∧Hid (wr.ownsRow w.heap.size 78 2 (.slice ua m.length un) m.length (ppCs m))) (fun v _=>m.length-(intOf v).toNat)
  case atStart=>exact ⟨0,Nat.zero_le _,rfl,HW6,HR6⟩
  clear HW6 HR6
  obtain ⟨k,hk,rfl,hW,hRr⟩:=hrel
  by_cases hkl:k<m.length
  ·have hk2:(k:Int)<(m.length:Int):=by omega
   obtain ⟨b,o,c',ev,hbl2,p0,p1⟩:=(ARd.of_pps hRr.out).ppAt k hkl
   cases ev
   have HNI:=hid (show m[k] ∉ m.take k from fun h=>by
    obtain ⟨j,hj,e⟩:=List.getElem_of_mem h
    rw [List.length_take] at hj
    rw [List.getElem_take] at e
    have:=List.pairwise_iff_getElem.1 HMP.out j k (by omega) hkl (by omega)
    rw [e] at this
    unfold ppLt at this
    omega)
   have HTK:=hid (List.take_succ_eq_append_getElem hkl)
   obtain ⟨p,hp⟩:∃ p,m[k]=p:=⟨_,rfl⟩
   rw [hp] at p0 p1 HNI HTK
   obtain ⟨a1,a2⟩:=p
   simp only at p0 p1
   have hb7:Below wr.heap.size wr (wr.alloc (.cells #[.int .i64 a1,.int .i64 a2] 78)):=(Below.refl _ wr).alloc (Nat.le_refl _) _
   have HW7:=hid (hW.out.later hb7)
   have HR7:=hid (row_later hRr.out hb7)
   have hmp:=HW7.out.mp
   clear hp hbl2 hb7 hW hRr
   go_wp2_with (at_mapUpdate;refine wpList_update_mp _ rfl _ _ _ 129 rfl 114 pp_keys Tryz.underlying129 rfl hmp (a1,a2) (.agg #[]) rfl rfl ?_;intro W8 hm8 hg8 hs8)
   rw [mput_setU HNI.out,← HTK.out] at hm8
   have HW8:=hid (HW7.out.upd hm8 hg8)
   have HR8:=hid (owns_kept HR7.out hg8 (mp_not hmp))
   clear hm8 hg8 hs8 hmp
   refine ⟨⟨k+1,by omega,by go_num,HW8,HR8⟩,?_⟩
   simp [intOf]
   omega
  have hk2:¬ (k:Int)<(m.length:Int):=by omega
  have hke:k=m.length:=by omega
  rw [hke,List.take_length] at hW
  have HW9:=hid (show DfW w X v1 v2 v3 v4 #[.slice ka x.h.ks.length kc,.slice sa x.h.ss.length sc,.slice ca x.h.cs.length cc,.slice pa x.l.length pc] (lftD m x.l 0) wr from by rw [lftD_zero];exact hW.out)
  have HI0:=hid (show ∀ j (hj:j<x.l.length),j<0→x.l[j]∈m from fun j hj h=>absurd h (Nat.not_lt_zero _))
  have y3:wr.cell? ⟨X,3,none⟩=some (.slice pa x.l.length pc):=hW.out.tr.cell 3
  clear hke hW hRr
  go_wp2
  clear y3
  go_loopw [43] (fun v wr=>∃ k:Nat,k≤x.l.length∧v = .int .i64 k∧Hid (∀ j (hj:j<x.l.length),j<k→x.l[j]∈m)∧Hid (DfW w X v1 v2 v3 v4 #[.slice ka x.h.ks.length kc,.slice sa x.h.ss.length sc,.slice ca x.h.cs.length cc,.slice pa x.l.length pc] (lftD m x.l k) wr)) (fun v _=>x.l.length-(intOf v).toNat)
  case atStart=>exact ⟨0,Nat.zero_le _,rfl,HI0,HW9⟩
  clear HI0 HW9
  obtain ⟨k,hk,rfl,hI,hW⟩:=hrel
  by_cases hkl:k<x.l.length
  ·have hk2:(k:Int)<(x.l.length:Int):=by omega
   obtain ⟨b,o,c',ev,hbl2,p0,p1⟩:=(HTH.out wr hW.out.b).ppAt k hkl
   cases ev
   have HLM:=hid (lftD_mem (m:=m) hkl HLP.out)
   have HLX:=hid (lftD_next (m:=m) hkl)
   have HIN:=hid (fun (h:x.l[k]∈m)=>show ∀ j (hj:j<x.l.length),j<k+1→x.l[j]∈m from fun j hj hjk=>by
    by_cases e:j=k
    ·subst e;exact h
    ·exact hI.out j hj (by omega))
   have HMK:=hid (fun (h:x.l[k] ∉ m)=>HMO.out _ (List.getElem_mem hkl) h)
   have HPA:=hid (HLA.out _ (List.getElem_mem hkl))
   obtain ⟨p,hp⟩:∃ p,x.l[k]=p:=⟨_,rfl⟩
   rw [hp] at p0 p1 HLM HLX HIN HMK HPA
   obtain ⟨a1,a2⟩:=p
   simp only at p0 p1
   have hb7:Below wr.heap.size wr (wr.alloc (.cells #[.int .i64 a1,.int .i64 a2] 78)):=(Below.refl _ wr).alloc (Nat.le_refl _) _
   have HW7:=hid (hW.out.later hb7)
   have HX7:=hid (Blk.new wr 78 #[.int .i64 a1,.int .i64 a2])
   clear hp hbl2 hI
   go_upto_region 13 with fail
   obtain ⟨Z,hZ⟩:∃ Z,wr.heap.size=Z:=⟨_,rfl⟩
   rw [hZ] at HX7 ⊢
   generalize wr.alloc (.cells #[.int .i64 a1,.int .i64 a2] 78)=W7 at *
   clear hZ hb7 hW p0 p1
   have z0:W7.cell? ⟨Z,0,none⟩=some (.int .i64 a1):=HX7.out.cell 0
   have z1:W7.cell? ⟨Z,1,none⟩=some (.int .i64 a2):=HX7.out.cell 1
   have hmp:=HW7.out.mp
   obtain ⟨bb,hbb⟩:∃ bb,decide (((a1,a2):Pp)∈lftD m x.l k)=bb:=⟨_,rfl⟩
   have hlk:(Instr.lookup 129 (.map (some (X+1))) (.agg #[.int .i64 a1,.int .i64 a2]) true).run Tryz.prog W7 = .ok (.tuple #[.agg #[],.bool bb]) W7:=by
    have:=(hmp.lookup pp_keys Tryz.underlying129 (Tryz.zeroValue114 _) (a1,a2)).2
    rw [(mget_setU_some _ _).2,show (mget ((a1,a2):Pp) (setU (lftD m x.l k))).isSome=bb from by rw [(mget_setU_some _ _).1,← hbb];congr] at this
    exact this
   have hb8:Below W7.heap.size W7 (W7.alloc (.cells #[] 114)):=(Below.refl _ W7).alloc (Nat.le_refl _) _
   have HW8:=hid (HW7.out.later hb8)
   have HX8:=hid (HX7.out.below hb8)
   go_upto_region 14 with fail
   generalize W7.alloc (.cells #[] 114)=W8 at *
   clear hb8 HW7 HX7 hmp hlk z0 z1
   have z0:W8.cell? ⟨Z,0,none⟩=some (.int .i64 a1):=HX8.out.cell 0
   have z1:W8.cell? ⟨Z,1,none⟩=some (.int .i64 a2):=HX8.out.cell 1
   cases bb with
   | false =>
    have hnm:=of_decide_eq_false hbb
    have HDF:=hid (HMK.out (fun h=>hnm (HLM.out.2 h)))
    obtain ⟨c0,c1,f0,f1⟩:W8.cell? ⟨w.heap.size+1,0,none⟩=some (.int .i64 0)∧W8.cell? ⟨w.heap.size+1,1,none⟩=some (.int .i64 0)∧W8.frozen? ⟨w.heap.size+1,0,none⟩=false∧W8.frozen? ⟨w.heap.size+1,1,none⟩=false:=⟨HW8.out.rs.cell 0,HW8.out.rs.cell 1,HW8.out.rs.frozen 0,HW8.out.rs.frozen 1⟩
    have HE:=hid (show DifE S B F L w (.returned (.tuple #[.int .i64 i,.agg #[.int .i64 a1,.int .i64 a2]])) ((W8.setCell ⟨w.heap.size+1,0,none⟩ (.int .i64 a1)).setCell ⟨w.heap.size+1,1,none⟩ (.int .i64 a2)).drew from ⟨i,(a1,a2),rfl,(HFE.out HDF.out.2).symm,fun _=>⟨x,HTM.out,HPA.out,HDF.out.1⟩,((HW8.out.b.setCell (Nat.le_succ _) _).setCell (Nat.le_succ _) _).drew⟩)
    have HRB:=hid (show Blk ((W8.setCell ⟨w.heap.size+1,0,none⟩ (.int .i64 a1)).setCell ⟨w.heap.size+1,1,none⟩ (.int .i64 a2)).drew (w.heap.size+1) 78 #[.int .i64 a1,.int .i64 a2] from ((HW8.out.rs.set 0 (.int .i64 a1)).set 1 (.int .i64 a2)).below ((Below.refl _ _).drew))
    clear hnm hbb HLM HLX HIN HMK HW8 HX8
    go_upto_region 15 with fail
    go_region
    go_wp2
    refine bodyPost_ret (results_tmp_row rfl _ _ (w.heap.size+1) 78 _ (0,0) _ rfl HRB.out Tryz.underlying78 rfl (pp_size2 rfl)) rfl ?_
    exact HE.out
   | true =>
    have hym:=of_decide_eq_true hbb
    have HIN2:=hid (HIN.out (HLM.out.1 hym))
    have hmp:=HW8.out.mp
    clear hym hbb HLM HMK HIN
    go_upto_region 16 with fail
    obtain ⟨W9,hrun,hm9,hg9,hs9⟩:=hmp.delete pp_keys Tryz.underlying129 78 0 (a1,a2)
    simp only [ekP] at hrun
    go_wp2
    rw [mdel_setU _ _ (lftD_nodup HMP.out _ _),HLX.out] at hm9
    have HW9:=hid (HW8.out.upd hm9 hg9)
    clear hm9 hg9 hs9 hmp HW8 HX8 z0 z1
    refine ⟨⟨k+1,by omega,by go_num,HIN2,HW9⟩,?_⟩
    simp [intOf]
    omega
  have hk2:¬ (k:Int)<(x.l.length:Int):=by omega
  have hke:k=x.l.length:=by omega
  rw [hke] at hW
  have HIA:=hid (show ∀ p∈x.l,p∈m from fun p hp=>by
   obtain ⟨j,hj,rfl⟩:=List.getElem_of_mem hp
   exact hI.out j hj (by omega))
  have hmp:=hW.out.mp
  clear hke hI
  go_wp2_with (at_range;refine wpList_range_mp _ rfl _ 129 rfl 78 114 Tryz.underlying129 rfl hmp ?_;intro W9 hrg9 hg9 hs9)
  try go_frame
  have HW9:=hid (hW.out.later ⟨hg9.os,hg9.tape,hg9.output,hg9.size,fun k hk=>hg9.block k hk (by simp)⟩)
  have HG9:=hid hrg9
  obtain ⟨rb,hrb⟩:∃ rb,wr.heap.size=rb:=⟨_,rfl⟩
  have HRBB:=hid (show w.heap.size≤rb from by rw [← hrb];exact hW.out.b.size)
  rw [hrb] at HG9 ⊢
  clear hrg9 hg9 hs9 hmp hW hrb
  go_loopw [62] (fun _ wr=>Hid (Rg ekP wr (X+1) rb (setU (lftD m x.l x.l.length)) (setU (lftD m x.l x.l.length)))∧Hid (DfW w X v1 v2 v3 v4 #[.slice ka x.h.ks.length kc,.slice sa x.h.ss.length sc,.slice ca x.h.cs.length cc,.slice pa x.l.length pc] (lftD m x.l x.l.length) wr)) (fun _ _=>0)
  case atStart=>exact ⟨HG9,HW9⟩
  clear HG9 HW9
  obtain ⟨hG,hW⟩:=hrel
  go_wp2_with (at_next;refine wpList_next_mp _ rfl _ rfl rfl hG.out ?_ ?_)
  ·intro hleft
   have hnil:lftD m x.l x.l.length=[]:=by unfold setU at hleft;exact List.map_eq_nil_iff.1 hleft
   have HEQ:=hid (HNX.out (asc_ext HMP.out HLP.out fun p=>⟨fun h=>by
    by_cases hp:p∈x.l
    ·exact hp
    ·have:=lftD_all.2 ⟨h,hp⟩
     rw [hnil] at this
     exact absurd this List.not_mem_nil,HIA.out p⟩))
   have HB9:=hid hW.out.b
   have HS9:=hid hW.out.sp
   have HR9:=hid hW.out.rs
   clear hleft hnil hG hW
   go_wp2
   go_roundw
   case rel=>exact ⟨i+1,by omega,by go_num,HEQ,HB9,HS9,HR9⟩
   case measure=>simp [intOf];omega
  ·intro a1 a2 v W10 hin hrg10 hg10 hs10 hen
   obtain ⟨hpm,hpl⟩:=lftD_all.1 (show ((a1,a2):Pp)∈lftD m x.l x.l.length from by
    unfold setU at hin
    obtain ⟨q,hq,e⟩:=List.mem_map.1 hin
    cases e
    exact hq)
   have HDF:=hid (HLE.out _ hpl hpm)
   simp only [ekP] at hen
   have hbA:Below w.heap.size w W10:=hW.out.b.grown hg10 hW.out.b.size (fun j e=>by cases e;exact HRBB.out)
   have hrA:=hW.out.rs.grown hg10 (fun e=>rg_blk_ne hG.out hW.out.rs (Option.some.inj e))
   have hbB:Below W10.heap.size W10 (W10.alloc (.cells #[.int .i64 a1,.int .i64 a2] 78)):=(Below.refl _ W10).alloc (Nat.le_refl _) _
   have HX8:=hid (Blk.new W10 78 #[.int .i64 a1,.int .i64 a2])
   have HBB:=hid (below_step hbA hbB)
   have HRB0:=hid (hrA.below hbB)
   clear hin hrg10 hg10 hs10 hpm hpl hG hW hbA hrA hbB
   try go_frame
   go_upto_region 21 with fail
   obtain ⟨Z,hZ⟩:∃ Z,W10.heap.size=Z:=⟨_,rfl⟩
   rw [hZ] at HX8 ⊢
   generalize W10.alloc (.cells #[.int .i64 a1,.int .i64 a2] 78)=W8 at *
   have z0:W8.cell? ⟨Z,0,none⟩=some (.int .i64 a1):=HX8.out.cell 0
   have z1:W8.cell? ⟨Z,1,none⟩=some (.int .i64 a2):=HX8.out.cell 1
   obtain ⟨c0,c1,f0,f1⟩:W8.cell? ⟨w.heap.size+1,0,none⟩=some (.int .i64 0)∧W8.cell? ⟨w.heap.size+1,1,none⟩=some (.int .i64 0)∧W8.frozen? ⟨w.heap.size+1,0,none⟩=false∧W8.frozen? ⟨w.heap.size+1,1,none⟩=false:=⟨HRB0.out.cell 0,HRB0.out.cell 1,HRB0.out.frozen 0,HRB0.out.frozen 1⟩
   have HE:=hid (show DifE S B F L w (.returned (.tuple #[.int .i64 i,.agg #[.int .i64 a1,.int .i64 a2]])) ((W8.setCell ⟨w.heap.size+1,0,none⟩ (.int .i64 a1)).setCell ⟨w.heap.size+1,1,none⟩ (.int .i64 a2)).drew from ⟨i,(a1,a2),rfl,(HFE.out HDF.out.2.2).symm,fun _=>⟨x,HTM.out,HDF.out.1,HDF.out.2.1⟩,((HBB.out.setCell (Nat.le_succ _) _).setCell (Nat.le_succ _) _).drew⟩)
   have HRB:=hid (show Blk ((W8.setCell ⟨w.heap.size+1,0,none⟩ (.int .i64 a1)).setCell ⟨w.heap.size+1,1,none⟩ (.int .i64 a2)).drew (w.heap.size+1) 78 #[.int .i64 a1,.int .i64 a2] from ((HRB0.out.set 0 (.int .i64 a1)).set 1 (.int .i64 a2)).below ((Below.refl _ _).drew))
   clear HRB0 HBB hZ
   go_region
   go_wp2
   refine bodyPost_ret (results_tmp_row rfl _ _ (w.heap.size+1) 78 _ (0,0) _ rfl HRB.out Tryz.underlying78 rfl (pp_size2 rfl)) rfl ?_
   exact HE.out
 ·have hi2:¬ (i:Int)<(L.length:Int):=by omega
  have hie:i=L.length:=by omega
  rw [hie] at hN
  have HFE:=hid (failI_end hN.out)
  obtain ⟨c0,c1,f0,f1⟩:wr.cell? ⟨w.heap.size+1,0,none⟩=some (.int .i64 0)∧wr.cell? ⟨w.heap.size+1,1,none⟩=some (.int .i64 0)∧wr.frozen? ⟨w.heap.size+1,0,none⟩=false∧wr.frozen? ⟨w.heap.size+1,1,none⟩=false:=⟨hR.out.cell 0,hR.out.cell 1,hR.out.frozen 0,hR.out.frozen 1⟩
  have HE:=hid (show DifE S B F L w (.returned (.tuple #[.int .i64 (-1),.agg #[.int .i64 0,.int .i64 0]])) ((wr.setCell ⟨w.heap.size+1,0,none⟩ (.int .i64 0)).setCell ⟨w.heap.size+1,1,none⟩ (.int .i64 0)) from ⟨-1,(0,0),rfl,HFE.out.symm,fun h=>absurd h (by decide),(hB.out.setCell (Nat.le_succ _) _).setCell (Nat.le_succ _) _⟩)
  have HRB:=hid (show Blk ((wr.setCell ⟨w.heap.size+1,0,none⟩ (.int .i64 0)).setCell ⟨w.heap.size+1,1,none⟩ (.int .i64 0)) (w.heap.size+1) 78 #[.int .i64 0,.int .i64 0] from (hR.out.set 0 (.int .i64 0)).set 1 (.int .i64 0))
  clear hN hie
  go_wp2
  refine bodyPost_ret (results_tmp_row rfl _ _ (w.heap.size+1) 78 _ (0,0) _ rfl HRB.out Tryz.underlying78 rfl (pp_size2 rfl)) rfl ?_
  exact HE.out
theorem trl_hands {S:Sp} {L:List Tl} (h:trlE S L=0):∀ t∈L,HnOk S t.h∧t.l.Pairwise ppLt∧∀ p∈t.l,p∈allFrom 0 S.rs:=fun t ht=>by
 obtain ⟨h1,_,h3⟩:=trlE_ok h
 obtain ⟨h4,h5,h6⟩:=h3 t ht
 exact ⟨hnd_ok h1 h4,h5,h6⟩
theorem ppFormI {w:World} {v:Value} {l:List Pp} (h:ARd w v 2 (l.map ppC)):∃ a c,v = .slice a l.length c:=by
 obtain ⟨a,c,e⟩:=h.form
 exact ⟨a,c,by simpa using e⟩
theorem hearsW30_any (v1 v2 v3 v4:Value) (S:Sp) (ok:SpWk S) (fp:Nat→Value) (vk vs vc fv:Value) (H:Hn) (hm:HnSm H) (F:List Ft) (hFl:F.length≤1000000) (B:(Th→Int)→Pp→Bool) (hB:(checkP S).2=0→SndIs S B) (w:World) (hsp:SpRd w v1 v2 v3 v4 fp S) (hh:HnRd w vk vs vc H) (hfv:ARd w fv 3 (F.map ftC)) :
  Calls Tryz.prog 16 #[.agg #[v1,v2,v3,v4],fv,.agg #[vk,vs,vc]] w (HeR (heL S B F H) (heE S F H) w):=by
 obtain ⟨⟨ka,kc,rfl⟩,⟨sa,sc,rfl⟩,⟨ca,cc,rfl⟩⟩:=hh.forms
 have hb0:=below_two w (.cells #[v1,v2,v3,v4] 27) (.cells #[.slice ka H.ks.length kc,.slice sa H.ss.length sc,.slice ca H.cs.length cc] 32)
 have k0:=(Blk.new w 27 #[v1,v2,v3,v4]).alloc (.cells #[.slice ka H.ks.length kc,.slice sa H.ss.length sc,.slice ca H.cs.length cc] 32)
 have k1:=Blk.new (w.alloc (.cells #[v1,v2,v3,v4] 27)) 32 #[.slice ka H.ks.length kc,.slice sa H.ss.length sc,.slice ca H.cs.length cc]
 rw [World.size_alloc] at k1
 have HB0:=hid hb0
 have K0:=hid k0
 have K1:=hid k1
 have HFA:=hid (fun (W:World) (hb:Below w.heap.size w W)=>faults30_any v1 v2 v3 v4 S ok fp F fv hFl W (hsp.later hb) (hfv.later hb))
 have HCS:=hid (fun (W:World) (hb:Below w.heap.size w W)=>check12_any v1 v2 v3 v4 S ok fp (.slice ka H.ks.length kc) (.slice sa H.ss.length sc) (.slice ca H.cs.length cc) H hm W (hsp.later hb) (hh.later hb))
 have HHE:=hid (fun (h1:fltE S F=0) (h2:hnE S H=0) (W:World) (hb:Below w.heap.size w W)=>hears30_any v1 v2 v3 v4 S ok (fltE_ok.1 h1).1 fp (.slice ka H.ks.length kc) (.slice sa H.ss.length sc) (.slice ca H.cs.length cc) fv H (hnE_ok (fltE_ok.1 h1).1 h2) F (fltE_ok.1 h1).2.2.ok hFl B (hB (fltE_ok.1 h1).1) W (hsp.later hb) (hh.later hb) (hfv.later hb))
 obtain ⟨s0,s1,s2,s3⟩:=k0.four
 obtain ⟨h0,h1,h2⟩:_∧_∧_:=⟨k1.cell 0,k1.cell 1,k1.cell 2⟩
 simp only [List.getElem?_toArray,List.getElem?_cons_zero,List.getElem?_cons_succ] at h0 h1 h2
 clear k0 k1 hb0 ok hsp hh hfv hB hm
 go_enter Tryz.func16,Tryz.ntmps16
 go_upto_region 1 with fail
 generalize (w.alloc (.cells #[v1,v2,v3,v4] 27)).alloc (.cells #[.slice ka H.ks.length kc,.slice sa H.ss.length sc,.slice ca H.cs.length cc] 32)=W0 at *
 go_wp2_with fail
 refine (HFA.out _ HB0.out).mono ?_
 rintro e W1 ⟨rfl,hb1⟩
 have HB1:=hid (below_step HB0.out hb1)
 replace K0:=hid (K0.out.below hb1)
 replace K1:=hid (K1.out.below hb1)
 clear hb1 s0 s1 s2 s3 h0 h1 h2 HB0 HFA
 obtain ⟨n,hn⟩:∃ n,fltE S F=n:=⟨_,rfl⟩
 rw [hn]
 by_cases hz:n=0
 case neg =>
  have q1:(n==0)=false:=by simpa using hz
  have q2:(n != 0)=true:=by simpa using hz
  have HE:=hid (he_flt (B:=B) (H:=H) hn hz)
  clear hz hn
  go_wp2
  go_ret2
  exact heR HE.out.2 HE.out.1 (World.ownsRow_nil _ _ _ _) HB1.out
 subst hz
 have HN:=hid hn
 clear hn
 obtain ⟨s0,s1,s2,s3⟩:=K0.out.four
 obtain ⟨h0,h1,h2⟩:W1.cell? ⟨w.heap.size+1,0,none⟩=some (.slice ka H.ks.length kc)∧W1.cell? ⟨w.heap.size+1,1,none⟩=some (.slice sa H.ss.length sc)∧W1.cell? ⟨w.heap.size+1,2,none⟩=some (.slice ca H.cs.length cc):=⟨K1.out.cell 0,K1.out.cell 1,K1.out.cell 2⟩
 go_wp2_with fail
 refine (HCS.out _ HB1.out).mono ?_
 rintro e W2 ⟨rfl,hb2⟩
 have HB2:=hid (below_step HB1.out hb2)
 replace K0:=hid (K0.out.below hb2)
 replace K1:=hid (K1.out.below hb2)
 clear hb2 s0 s1 s2 s3 h0 h1 h2 HB1 HCS
 obtain ⟨n,hn⟩:∃ n,hnE S H=n:=⟨_,rfl⟩
 rw [hn]
 by_cases hz:n=0
 case neg =>
  have q1:(n==0)=false:=by simpa using hz
  have q2:(n != 0)=true:=by simpa using hz
  have HE:=hid (he_hn (B:=B) HN.out hn hz)
  clear hz hn
  go_wp2
  go_ret2
  exact heR HE.out.2 HE.out.1 (World.ownsRow_nil _ _ _ _) HB2.out
 subst hz
 have HN2:=hid hn
 clear hn
 obtain ⟨s0,s1,s2,s3⟩:=K0.out.four
 obtain ⟨h0,h1,h2⟩:W2.cell? ⟨w.heap.size+1,0,none⟩=some (.slice ka H.ks.length kc)∧W2.cell? ⟨w.heap.size+1,1,none⟩=some (.slice sa H.ss.length sc)∧W2.cell? ⟨w.heap.size+1,2,none⟩=some (.slice ca H.cs.length cc):=⟨K1.out.cell 0,K1.out.cell 1,K1.out.cell 2⟩
 have HE:=hid (he_in (B:=B) HN.out HN2.out)
 go_wp2_with fail
 refine (HHE.out HN.out HN2.out _ HB2.out).mono ?_
 rintro e W3 ⟨v,rfl,hrow,hb3⟩
 have HB3:=hid (below_step HB2.out hb3)
 have HR3:=hid (row_base hrow HB2.out.size)
 clear hb3 hrow s0 s1 s2 s3 h0 h1 h2 HHE
 go_wp2
 go_ret2
 exact heR HE.out.2 HE.out.1 HR3.out HB3.out
end Go.Proofs.YteflhbfgpknabaaGreatDoor
namespace Go.Proofs.YteflhbfgpknabaaGreatDoor
open Go.Lib (hid)
open Go.RowKit
abbrev Tri:=Ft × Ft × Ft
def triC (x:Tri):List Value:=ftC x.1++ftC x.2.1++ftC x.2.2
def ekT (x:Tri):Value:=.agg (triC x).toArray
def triOf (l:List Ft):Tri:=(l.getD 0 (0,0,0),l.getD 1 (0,0,0),l.getD 2 (0,0,0))
theorem run_eqF (x y:Ft) (w:World):(Op.equalIn 9999 74 (.agg (ftC x).toArray) (.agg (ftC y).toArray)).run Tryz.prog w = .ok (decide (x=y)) w:=by
 obtain ⟨a,b,c⟩:=x
 obtain ⟨d,e,f⟩:=y
 unfold ftC
 rw [run_equalIn_agg w 9998 74 _ _ (by kernel_rfl) (by kernel_rfl)]
 simp only [Program.fieldsOf,Tryz.underlying74]
 simp [go_sem,Tryz.underlying3,part]
 by_cases h1:a=d <;> by_cases h2:b=e <;> by_cases h3:c=f <;> simp [h1,h2,h3]
theorem part_tri (x:Tri) (j:Nat) (hj:j<3) (w:World):(part 74 (triC x).toArray (j * 3)).run Tryz.prog w = .ok (.agg (ftC (match j with | 0=>x.1 | 1=>x.2.1 | _=>x.2.2)).toArray) w:=by
 obtain ⟨⟨a1,a2,a3⟩,⟨b1,b2,b3⟩,c1,c2,c3⟩:=x
 match j,hj with
 | 0,_ | 1,_ | 2,_ => simp [part,triC,ftC,go_sem,Tryz.isAgg74,Tryz.sizeOf74]
theorem tri_info:(Tryz.prog.info? 74).map (fun _=>())=some ()∧Tryz.prog.cellsOf 74=3:=⟨by kernel_rfl,by kernel_rfl⟩
theorem run_eqT (x y:Tri) (w:World):(Op.equal 113 (ekT x) (ekT y)).run Tryz.prog w = .ok (decide (x=y)) w:=by
 obtain ⟨i,hi⟩:∃ i,Tryz.prog.info? 74=some i:=by
  cases h:Tryz.prog.info? 74 with
  | none=>have:=tri_info.1;rw [h] at this;cases this
  | some i=>exact ⟨i,rfl⟩
 have h0:∀ w,(part 74 (triC x).toArray 0).run Tryz.prog w = .ok (.agg (ftC x.1).toArray) w:=fun w=>part_tri x 0 (by decide) w
 have h1:∀ w,(part 74 (triC x).toArray 3).run Tryz.prog w = .ok (.agg (ftC x.2.1).toArray) w:=fun w=>part_tri x 1 (by decide) w
 have h2:∀ w,(part 74 (triC x).toArray 6).run Tryz.prog w = .ok (.agg (ftC x.2.2).toArray) w:=fun w=>part_tri x 2 (by decide) w
 have k0:∀ w,(part 74 (triC y).toArray 0).run Tryz.prog w = .ok (.agg (ftC y.1).toArray) w:=fun w=>part_tri y 0 (by decide) w
 have k1:∀ w,(part 74 (triC y).toArray 3).run Tryz.prog w = .ok (.agg (ftC y.2.1).toArray) w:=fun w=>part_tri y 1 (by decide) w
 have k2:∀ w,(part 74 (triC y).toArray 6).run Tryz.prog w = .ok (.agg (ftC y.2.2).toArray) w:=fun w=>part_tri y 2 (by decide) w
 show (Op.equalIn (9999+1) _ (.agg _) (.agg _)).run _ _=_
 rw [run_equalIn_array w 9999 _ _ Tryz.underlying113 hi,tri_info.2]
 show (Op.eqItems 9999 _ 3 _ _ [0,1,2]).run _ _=_
 obtain ⟨x1,x2,x3⟩:=x
 obtain ⟨y1,y2,y3⟩:=y
 have step:∀ (j:Nat) (a b:Ft) (is:List Nat),(∀ w,(part 74 (triC (x1,x2,x3)).toArray (j * 3)).run Tryz.prog w = .ok (.agg (ftC a).toArray) w)→(∀ w,(part 74 (triC (y1,y2,y3)).toArray (j * 3)).run Tryz.prog w = .ok (.agg (ftC b).toArray) w)→(Op.eqItems 9999 74 3 (triC (x1,x2,x3)).toArray (triC (y1,y2,y3)).toArray (j :: is)).run Tryz.prog w=if a=b then (Op.eqItems 9999 74 3 (triC (x1,x2,x3)).toArray (triC (y1,y2,y3)).toArray is).run Tryz.prog w else .ok false w:=fun j a b is ha hb=>by
  simp only [Op.eqItems,Sem.run_bind,ha,hb,Result.andThen_ok,run_eqF]
  by_cases e:a=b
  ·rw [if_pos e];simp [e]
  ·rw [if_neg e];simp [e]
 rw [step 0 x1 y1 _ h0 k0,step 1 x2 y2 _ h1 k1,step 2 x3 y3 _ h2 k2]
 by_cases e1:x1=y1
 ·rw [if_pos e1]
  by_cases e2:x2=y2
  ·rw [if_pos e2]
   by_cases e3:x3=y3
   ·rw [if_pos e3,e1,e2,e3,decide_eq_true rfl];rfl
   ·rw [if_neg e3,decide_eq_false (fun h=>e3 (by simpa using (Prod.mk.inj (Prod.mk.inj h).2).2))]
  ·rw [if_neg e2,decide_eq_false (fun h=>e2 (by simpa using (Prod.mk.inj (Prod.mk.inj h).2).1))]
 ·rw [if_neg e1,decide_eq_false (fun h=>e1 (by simpa using (Prod.mk.inj h).1))]
theorem chk_ft (b:Bool) (x:Ft) (w:World) (n:Nat):(Instr.checkKey b (n+1+1) 74 (.agg (ftC x).toArray)).run Tryz.prog w = .ok () w:=by
 unfold ftC
 simp [Instr.checkKey,run_underlying Tryz.underlying74,run_underlying Tryz.underlying3,go_sem,part,Result.andThen]
theorem chk_tri (b:Bool) (x:Tri) (w:World) (n:Nat):(Instr.checkKey b (n+1+1+1) 113 (ekT x)).run Tryz.prog w = .ok () w:=by
 have h0:∀ w,(part 74 (triC x).toArray 0).run Tryz.prog w = .ok (.agg (ftC x.1).toArray) w:=fun w=>part_tri x 0 (by decide) w
 have h1:∀ w,(part 74 (triC x).toArray 3).run Tryz.prog w = .ok (.agg (ftC x.2.1).toArray) w:=fun w=>part_tri x 1 (by decide) w
 have h2:∀ w,(part 74 (triC x).toArray 6).run Tryz.prog w = .ok (.agg (ftC x.2.2).toArray) w:=fun w=>part_tri x 2 (by decide) w
 unfold ekT
 rw [Instr.checkKey]
 have c0:∀ (y:Ft) w,(Instr.checkKey b (n+2) 74 (.agg (ftC y).toArray)).run Tryz.prog w = .ok () w:=fun y w=>chk_ft b y w n
 have z0:=Tryz.sizeOf74
 simp [run_underlying Tryz.underlying113,Sem.run_bind,Result.andThen,Std.Legacy.Range.forIn_eq_forIn_range',Std.Legacy.Range.size,List.range',h0,h1,h2,c0,z0]
theorem tri_keys:MapK Tryz.prog 113 ekT :=
 mapK_agg Tryz.underlying113 (fun _ _=>rfl) (fun x y w=>run_eqT x y w) (fun b x w=>chk_tri b x w 9997) (fun x=>by unfold ekT triC ftC;simp [Instr.sameBits])
theorem triOf_inj {f g:List Ft} (hf:f.length≤3) (hg:g.length≤3) (kf:∀ x∈f,1≤x.1) (kg:∀ x∈g,1≤x.1) (h:triOf f=triOf g):f=g:=by
 have nz:∀ {x:Ft},1≤x.1→x≠(0,0,0):=fun h e=>by subst e;simp at h
 simp only [triOf,Prod.mk.injEq] at h
 obtain ⟨h0,h1,h2⟩:=h
 rcases f with _ | ⟨a,_ | ⟨b,_ | ⟨c,_ | ⟨d,f⟩⟩⟩⟩ <;> rcases g with _ | ⟨a',_ | ⟨b',_ | ⟨c',_ | ⟨d',g⟩⟩⟩⟩ <;> simp only [List.length_cons,List.length_nil] at hf hg <;> (try omega) <;> simp only [List.getD_cons_zero,List.getD_cons_succ,List.getD_nil] at h0 h1 h2 <;> simp only [List.mem_cons,List.not_mem_nil,or_false,forall_eq_or_imp,forall_eq] at kf kg
 ·rfl
 all_goals first | (subst h0 h1 h2;rfl) | (subst h0 h1;rfl) | (subst h0;rfl) | exact absurd h0 (nz (by first | exact kf | exact kf.1)) | exact absurd h0.symm (nz (by first | exact kg | exact kg.1)) | exact absurd h1 (nz (by first | exact kf.2 | exact kf.2.1)) | exact absurd h1.symm (nz (by first | exact kg.2 | exact kg.2.1)) | exact absurd h2 (nz kf.2.2) | exact absurd h2.symm (nz kg.2.2)
open Go.Shelf
def ftCs (l:List Ft):List Value:=(l.map ftC).flatten
theorem ftf_info:(Tryz.prog.info? 74).map (fun i=>(i.zero,i.size,i.bytes))=some (some (.agg #[.int .i64 0,.int .i64 0,.int .i64 0]),3,24):=by kernel_rfl
def csA (S:Sp) (p:Pp) (n:Nat):List Ft:=[(1,p.1,p.2),(2,p.1,p.2)]++(List.range n).flatMap (fun (i:Nat)=>if (S.ss[i]?.map fun x=>ownB x p)=some true then [(3,(i:Int),0),(4,(i:Int),0)] else [])
def csB (S:Sp) (p:Pp) (n:Nat):List Ft:=csA S p S.ss.length++(List.range n).flatMap fun (i:Nat)=>[(5,(i:Int),0),(6,(i:Int),0)]
theorem csA_next {S:Sp} {p:Pp} {n:Nat} (hn:n<S.ss.length):csA S p (n+1)=csA S p n++(if ownB S.ss[n] p=true then [(3,(n:Int),0),(4,(n:Int),0)] else []):=by
 unfold csA
 rw [List.range_succ,List.flatMap_append,List.append_assoc]
 simp [hn]
theorem csB_next (S:Sp) (p:Pp) (n:Nat):csB S p (n+1)=csB S p n++[(5,(n:Int),0),(6,(n:Int),0)]:=by
 unfold csB
 rw [List.range_succ,List.flatMap_append,List.append_assoc]
 simp
theorem csB_all (S:Sp) (p:Pp):csB S p S.cs.length=causeL S p:=rfl
theorem csA_len (S:Sp) (p:Pp):∀ n,n≤S.ss.length→(csA S p n).length≤2+2 * n
 | 0,_ => by simp [csA]
 | n+1,h=>by
  have ih:=csA_len S p n (by omega)
  rw [csA_next (by omega),List.length_append]
  split <;> simp <;> omega
theorem csB_len (S:Sp) (p:Pp):∀ n,(csB S p n).length≤2+2 * S.ss.length+2 * n
 | 0=>by have:=csA_len S p S.ss.length (Nat.le_refl _);simp [csB];omega
 | n+1=>by
  have ih:=csB_len S p n
  rw [csB_next,List.length_append]
  simp
  omega
theorem ftCs_two (l:List Ft) (a b c x y z:Int):ftCs (l++[(a,b,c),(x,y,z)])=ftCs l++[.int .i64 a,.int .i64 b,.int .i64 c,.int .i64 x,.int .i64 y,.int .i64 z]:=by simp [ftCs,ftC]
def CsE (m:List Ft) (w:World) (e:Ending) (w':World):Prop:=∃ v,e = .returned v∧w'.ownsRow w.heap.size 74 3 v m.length (ftCs m)∧Below w.heap.size w w'
theorem causes_any (v1 v2 v3 v4:Value) (S:Sp) (hc:(checkP S).2=0) (fp:Nat→Value) (w:World) (hsp:SpRd w v1 v2 v3 v4 fp S) (a t:Int) :
  Calls Tryz.prog 69 #[.agg #[v1,v2,v3,v4],.agg #[.int .i64 a,.int .i64 t]] w (CsE (causeL S (a,t)) w):=by
 obtain ⟨_,_,l3,l4⟩:=sp_lens hc
 obtain ⟨_,_,⟨a3,c3,rfl⟩,⟨a4,c4,rfl⟩⟩:=hsp.forms
 obtain ⟨i0,hi0,hz0,hz1,hz2⟩:=info_parts ftf_info
 have HSP:=hid hsp
 have HC:=hid hc
 have hb0:=(below_two w (.cells #[v1,v2,.slice a3 S.ss.length c3,.slice a4 S.cs.length c4] 27) (.cells #[.int .i64 a,.int .i64 t] 78)).alloc (by simp;omega) (.cells #[.int .i64 1,.int .i64 a,.int .i64 t,.int .i64 2,.int .i64 a,.int .i64 t] 74)
 have k0:=((Blk.new w 27 #[v1,v2,.slice a3 S.ss.length c3,.slice a4 S.cs.length c4]).alloc (.cells #[.int .i64 a,.int .i64 t] 78)).alloc (.cells #[.int .i64 1,.int .i64 a,.int .i64 t,.int .i64 2,.int .i64 a,.int .i64 t] 74)
 have k1:=(Blk.new (w.alloc (.cells #[v1,v2,.slice a3 S.ss.length c3,.slice a4 S.cs.length c4] 27)) 78 #[.int .i64 a,.int .i64 t]).alloc (.cells #[.int .i64 1,.int .i64 a,.int .i64 t,.int .i64 2,.int .i64 a,.int .i64 t] 74)
 have k2:=Blk.new ((w.alloc (.cells #[v1,v2,.slice a3 S.ss.length c3,.slice a4 S.cs.length c4] 27)).alloc (.cells #[.int .i64 a,.int .i64 t] 78)) 74 #[.int .i64 1,.int .i64 a,.int .i64 t,.int .i64 2,.int .i64 a,.int .i64 t]
 rw [World.size_alloc] at k1
 rw [World.size_alloc,World.size_alloc] at k2
 clear hsp hc
 go_enter Tryz.func69,Tryz.ntmps69
 go_wp2
 have HR0:=hid (show (((w.alloc (.cells #[v1,v2,.slice a3 S.ss.length c3,.slice a4 S.cs.length c4] 27)).alloc (.cells #[.int .i64 a,.int .i64 t] 78)).alloc (.cells #[.int .i64 1,.int .i64 a,.int .i64 t,.int .i64 2,.int .i64 a,.int .i64 t] 74)).ownsRow w.heap.size 74 3 (.slice (some ⟨w.heap.size+1+1,0,none⟩) 2 2) (csA S (a,t) 0).length (ftCs (csA S (a,t) 0)) from ⟨rfl,.inr ⟨w.heap.size+1+1,2,_,rfl,by omega,k2,Nat.le_refl _,by unfold maxLen;omega,rfl,rfl⟩⟩)
 have HB0:=hid hb0
 have HS0:=hid k0
 have HP0:=hid k1
 clear hb0 k0 k1 k2
 generalize ((w.alloc (.cells #[v1,v2,.slice a3 S.ss.length c3,.slice a4 S.cs.length c4] 27)).alloc (.cells #[.int .i64 a,.int .i64 t] 78)).alloc (.cells #[.int .i64 1,.int .i64 a,.int .i64 t,.int .i64 2,.int .i64 a,.int .i64 t] 74)=W0 at *
 go_loopw [5,25] (fun u x wr=>∃ n:Nat,n≤S.ss.length∧x = .int .i64 n∧Hid (wr.ownsRow w.heap.size 74 3 u (csA S (a,t) n).length (ftCs (csA S (a,t) n)))∧Hid (Below w.heap.size w wr)∧Hid (Blk wr w.heap.size 27 #[v1,v2,.slice a3 S.ss.length c3,.slice a4 S.cs.length c4])∧Hid (Blk wr (w.heap.size+1) 78 #[.int .i64 a,.int .i64 t])) (fun _ x _=>S.ss.length-(intOf x).toNat)
 case atStart=>exact ⟨0,Nat.zero_le _,rfl,HR0,HB0,HS0,HP0⟩
 clear HR0 HB0 HS0 HP0
 obtain ⟨n,hn,rfl,hR,hB,hS,hP⟩:=hrel
 by_cases hnl:n<S.ss.length
 ·have hn2:(n:Int)<(S.ss.length:Int):=by omega
  obtain ⟨b,o,c',ev,hbl,r0,r1,r2,r3,r4⟩:=(HSP.out.later hB.out).sAt n hnl
  cases ev
  have hML:=csA_len S (a,t) n hn
  have hpl:=((spGood HC.out).s _ (List.getElem_mem hnl)).2.2.2
  have HNX:=hid (csA_next (p:=(a,t)) hnl)
  have HPT:=hid (fun (W':World) (hb:Below w.heap.size w W')=>(HSP.out.later hb).p n hnl)
  have HPA:=hid (fun (y:Pt) (hy:y∈S.ss[n].parts)=>(spGood HC.out).part (List.getElem_mem hnl) hy)
  obtain ⟨pa,pc,epv⟩:=(HSP.out.p n hnl).form
  rw [List.length_map] at epv
  rw [epv] at r4 HPT
  obtain ⟨x,hx⟩:∃ x,S.ss[n]=x:=⟨_,rfl⟩
  rw [hx] at r0 r1 r2 r3 r4 HPT HNX HPA hpl
  obtain ⟨M,hM⟩:∃ M,csA S (a,t) n=M:=⟨_,rfl⟩
  rw [hM] at hR HNX hML
  clear hx hM epv
  have hML2:M.length≤200:=by omega
  go_upto_region 5 with fail
  have hb4:Below wr.heap.size wr (wr.alloc (.cells #[.string x.name,.int .i64 x.div,.int .i64 x.num,.int .i64 x.den,.slice pa x.parts.length pc] 66)):=(Below.refl _ wr).alloc (Nat.le_refl _) _
  have HR2:=hid (row_later hR.out hb4)
  have HB2:=hid (below_step hB.out hb4)
  have HS2:=hid (hS.out.below hb4)
  have HP2:=hid (hP.out.below hb4)
  have y4:(wr.alloc (.cells #[.string x.name,.int .i64 x.div,.int .i64 x.num,.int .i64 x.den,.slice pa x.parts.length pc] 66)).cell? ⟨wr.heap.size,4,none⟩=some (.slice pa x.parts.length pc):=(Blk.new wr 66 #[.string x.name,.int .i64 x.div,.int .i64 x.num,.int .i64 x.den,.slice pa x.parts.length pc]).cell 4
  obtain ⟨X,hXe⟩:∃ X,wr.heap.size=X:=⟨_,rfl⟩
  rw [hXe] at y4 ⊢
  generalize wr.alloc (.cells #[.string x.name,.int .i64 x.div,.int .i64 x.num,.int .i64 x.den,.slice pa x.parts.length pc] 66)=W2 at *
  clear hb4 hXe hR hB hS hP r0 r1 r2 r3 r4
  have HN0:=hid (show ∀ j (hj:j<x.parts.length),j<0→¬ (x.parts[j].rank=a∧x.parts[j].lo+x.parts[j].shift≤t∧t≤x.parts[j].hi+x.parts[j].shift) from fun _ _ h=>absurd h (Nat.not_lt_zero _))
  go_wp2
  clear y4
  go_loopw [5,33] (fun uu y wr=>∃ k:Nat,k≤x.parts.length∧y = .int .i64 k∧Hid (∀ j (hj:j<x.parts.length),j<k→¬ (x.parts[j].rank=a∧x.parts[j].lo+x.parts[j].shift≤t∧t≤x.parts[j].hi+x.parts[j].shift))∧Hid (wr.ownsRow w.heap.size 74 3 uu M.length (ftCs M))∧Hid (Below w.heap.size w wr)∧Hid (Blk wr w.heap.size 27 #[v1,v2,.slice (some ⟨b,o,none⟩) S.ss.length c3,.slice a4 S.cs.length c4])∧Hid (Blk wr (w.heap.size+1) 78 #[.int .i64 a,.int .i64 t])) (fun _ y _=>x.parts.length-(intOf y).toNat)
  case atStart=>exact ⟨0,Nat.zero_le _,rfl,HN0,HR2,HB2,HS2,HP2⟩
  clear HN0 HR2 HB2 HS2 HP2
  obtain ⟨k,hk,rfl,hN,hR,hB,hS,hP⟩:=hrel
  by_cases hkl:k<x.parts.length
  ·have hk2:(k:Int)<(x.parts.length:Int):=by omega
   obtain ⟨bp,op,cp,ev,hbp,q0,q1,q2,q3⟩:=(HPT.out wr hB.out).ptAt k hkl
   cases ev
   obtain ⟨_,_,_,g1,g2,g3,g4,g5,_,_⟩:=HPA.out _ (List.getElem_mem hkl)
   have HNO:=hid (fun (h:¬ (x.parts[k].rank=a∧x.parts[k].lo+x.parts[k].shift≤t∧t≤x.parts[k].hi+x.parts[k].shift))=>show ∀ j (hj:j<x.parts.length),j<k+1→¬ (x.parts[j].rank=a∧x.parts[j].lo+x.parts[j].shift≤t∧t≤x.parts[j].hi+x.parts[j].shift) from fun j hj hjk=>by
    by_cases e:j=k
    ·subst e;exact h
    ·exact hN.out j hj (by omega))
   have HYE:=hid (fun (h:x.parts[k].rank=a∧x.parts[k].lo+x.parts[k].shift≤t∧t≤x.parts[k].hi+x.parts[k].shift)=>show ownB x (a,t)=true from by
    unfold ownB
    exact List.any_eq_true.2 ⟨_,List.getElem_mem hkl,decide_eq_true h⟩)
   obtain ⟨y,hy⟩:∃ y,x.parts[k]=y:=⟨_,rfl⟩
   rw [hy] at q0 q1 q2 q3 g1 g2 g3 g4 g5 HNO HYE
   obtain ⟨rk,sh,lo,hi'⟩:=y
   simp only at q0 q1 q2 q3 g1 g2 g3 g4 g5
   have e1:IntKind.i64.wrap (lo+sh)=lo+sh:=IntWalk.i64_in _ (by omega)
   have e2:IntKind.i64.wrap (hi'+sh)=hi'+sh:=IntWalk.i64_in _ (by omega)
   clear hy hN
   go_upto_region 8 with fail
   have hb4:Below wr.heap.size wr (wr.alloc (.cells #[.int .i64 rk,.int .i64 sh,.int .i64 lo,.int .i64 hi'] 105)):=(Below.refl _ wr).alloc (Nat.le_refl _) _
   have HR4:=hid (row_later hR.out hb4)
   have HB4:=hid (below_step hB.out hb4)
   have HS4:=hid (hS.out.below hb4)
   have HP4:=hid (hP.out.below hb4)
   obtain ⟨y0,y1,y2,y3⟩:=(Blk.new wr 105 #[.int .i64 rk,.int .i64 sh,.int .i64 lo,.int .i64 hi']).four
   have p0:(wr.alloc (.cells #[.int .i64 rk,.int .i64 sh,.int .i64 lo,.int .i64 hi'] 105)).cell? ⟨w.heap.size+1,0,none⟩=some (.int .i64 a):=HP4.out.cell 0
   have p1:(wr.alloc (.cells #[.int .i64 rk,.int .i64 sh,.int .i64 lo,.int .i64 hi'] 105)).cell? ⟨w.heap.size+1,1,none⟩=some (.int .i64 t):=HP4.out.cell 1
   have hsz:=HB4.out.size
   obtain ⟨Y,hYe⟩:∃ Y,wr.heap.size=Y:=⟨_,rfl⟩
   rw [hYe] at y0 y1 y2 y3 ⊢
   generalize wr.alloc (.cells #[.int .i64 rk,.int .i64 sh,.int .i64 lo,.int .i64 hi'] 105)=W4 at *
   clear hb4 hYe hR hB hS hP q0 q1 q2 q3
   by_cases c1:rk=a
   ·have d1:(rk==a)=true:=by rw [c1];exact beq_self_eq_true _
    by_cases c2:lo+sh≤t
    ·have d2:decide (lo+sh≤t)=true:=decide_eq_true c2
     by_cases c3':t≤hi'+sh
     ·have d3:decide (t≤hi'+sh)=true:=decide_eq_true c3'
      have HY2:=hid (show csA S (a,t) (n+1)=M++[(3,(n:Int),0),(4,(n:Int),0)] from by rw [HNX.out,if_pos (HYE.out ⟨c1,c2,c3'⟩)])
      clear HNO HYE c1
      go_wp2_with (at_builtin;(refine wpList_append_lies _ rfl _ _ 28 rfl w.heap.size 74 i0 _ 3 24 Tryz.underlying28 hi0 hz0 hz1 hz2 rfl (by omega) _ _ _ rfl (HR4.out.alloc _) ⟨W4.heap.size,0,none⟩ 2 2 [.int .i64 3,.int .i64 (n:Int),.int .i64 0,.int .i64 4,.int .i64 (n:Int),.int .i64 0] rfl rfl (World.news_of_block (cs:=#[.int .i64 3,.int .i64 (n:Int),.int .i64 0,.int .i64 4,.int .i64 (n:Int),.int .i64 0]) (t:=74) (fr:=(0,0)) (heap_alloc_new W4 _)) (by simp [Value.oneCell']) (by omega) (by unfold maxLen;omega) (by omega) (by simp;omega) (W4.heap.size+1) (by simp) ?_;intro gg cap w7 hown3 hgrow hat3 hlt3))
      have HB7:=hid (push_low HB4.out HR4.out hgrow)
      have HS7:=hid (HS4.out.rowed HR4.out (by decide) hgrow)
      have HP7:=hid (HP4.out.rowed HR4.out (by decide) hgrow)
      have HR7:=hid (show w7.ownsRow w.heap.size 74 3 (.slice (some ⟨gg,0,none⟩) (M.length+2) cap) (csA S (a,t) (n+1)).length (ftCs (csA S (a,t) (n+1))) from by
       rw [HY2.out,ftCs_two,List.length_append]
       exact hown3)
      clear hown3 hgrow hat3 hlt3
      go_wp2
      go_roundw
      case rel=>exact ⟨n+1,by omega,by go_num,HR7,HB7,HS7,HP7⟩
      case measure=>simp [intOf];omega
     ·have d3:decide (t≤hi'+sh)=false:=decide_eq_false c3'
      have HNO2:=hid (HNO.out (fun h=>c3' h.2.2))
      clear HNO HYE
      go_wp2
      go_roundw
      case rel=>exact ⟨k+1,by omega,by go_num,HNO2,HR4,HB4,HS4,HP4⟩
      case measure=>simp [intOf];omega
    ·have d2:decide (lo+sh≤t)=false:=decide_eq_false c2
     have HNO2:=hid (HNO.out (fun h=>c2 h.2.1))
     clear HNO HYE
     go_wp2
     go_roundw
     case rel=>exact ⟨k+1,by omega,by go_num,HNO2,HR4,HB4,HS4,HP4⟩
     case measure=>simp [intOf];omega
   ·have d1:(rk==a)=false:=by rw [beq_eq_false_iff_ne];exact c1
    have HNO2:=hid (HNO.out (fun h=>c1 h.1))
    clear HNO HYE
    go_wp2
    go_roundw
    case rel=>exact ⟨k+1,by omega,by go_num,HNO2,HR4,HB4,HS4,HP4⟩
    case measure=>simp [intOf];omega
  ·have hk2:¬ (k:Int)<(x.parts.length:Int):=by omega
   have HN2:=hid (show csA S (a,t) (n+1)=M from by
    rw [HNX.out,if_neg,List.append_nil]
    intro h
    unfold ownB at h
    obtain ⟨y,hy,hd⟩:=List.any_eq_true.1 h
    obtain ⟨j,hj,rfl⟩:=List.getElem_of_mem hy
    exact hN.out j hj (by omega) (of_decide_eq_true hd))
   go_wp2
   go_roundw
   case rel=>exact ⟨n+1,by omega,by go_num,by rw [HN2.out];exact hR,hB,hS,hP⟩
   case measure=>simp [intOf];omega
 ·have hn2:¬ (n:Int)<(S.ss.length:Int):=by omega
  have hne:n=S.ss.length:=by omega
  rw [hne] at hR
  have HR1:=hid (show wr.ownsRow w.heap.size 74 3 u5 (csB S (a,t) 0).length (ftCs (csB S (a,t) 0)) from by rw [show csB S (a,t) 0=csA S (a,t) S.ss.length from by simp [csB]];exact hR.out)
  have s3:wr.cell? ⟨w.heap.size,3,none⟩=some (.slice a4 S.cs.length c4):=hS.out.cell 3
  have HB1:=hid hB.out
  clear hne hR hS hP hB
  go_wp2
  clear s3
  go_loopw [5,74] (fun u x wr=>∃ m:Nat,m≤S.cs.length∧x = .int .i64 m∧Hid (wr.ownsRow w.heap.size 74 3 u (csB S (a,t) m).length (ftCs (csB S (a,t) m)))∧Hid (Below w.heap.size w wr)) (fun _ x _=>S.cs.length-(intOf x).toNat)
  case atStart=>exact ⟨0,Nat.zero_le _,rfl,HR1,HB1⟩
  clear HR1 HB1
  obtain ⟨m,hm,rfl,hR,hB⟩:=hrel
  by_cases hml:m<S.cs.length
  ·have hm2:(m:Int)<(S.cs.length:Int):=by omega
   have hML:=csB_len S (a,t) m
   have HNX:=hid (csB_next S (a,t) m)
   obtain ⟨M,hM⟩:∃ M,csB S (a,t) m=M:=⟨_,rfl⟩
   rw [hM] at hR HNX hML
   clear hM
   have hML2:M.length≤400:=by omega
   have hsz:=hB.out.size
   go_wp2_with (at_builtin;refine wpList_append_lies _ rfl _ _ 28 rfl w.heap.size 74 i0 _ 3 24 Tryz.underlying28 hi0 hz0 hz1 hz2 rfl (by omega) _ _ _ rfl (hR.out.alloc _) ⟨wr.heap.size,0,none⟩ 2 2 [.int .i64 5,.int .i64 (m:Int),.int .i64 0,.int .i64 6,.int .i64 (m:Int),.int .i64 0] rfl rfl (World.news_of_block (cs:=#[.int .i64 5,.int .i64 (m:Int),.int .i64 0,.int .i64 6,.int .i64 (m:Int),.int .i64 0]) (t:=74) (fr:=(0,0)) (heap_alloc_new wr _)) (by simp [Value.oneCell']) (by omega) (by unfold maxLen;omega) (by omega) (by simp;omega) (wr.heap.size+1) (by simp) ?_;intro gg cap w7 hown3 hgrow hat3 hlt3)
   have HB7:=hid (push_low hB.out hR.out hgrow)
   have HR7:=hid (show w7.ownsRow w.heap.size 74 3 (.slice (some ⟨gg,0,none⟩) (M.length+2) cap) (csB S (a,t) (m+1)).length (ftCs (csB S (a,t) (m+1))) from by
    rw [HNX.out,ftCs_two,List.length_append]
    exact hown3)
   clear hown3 hgrow hat3 hlt3
   go_wp2
   go_roundw
   case rel=>exact ⟨m+1,by omega,by go_num,HR7,HB7⟩
   case measure=>simp [intOf];omega
  ·have hm2:¬ (m:Int)<(S.cs.length:Int):=by omega
   have hme:m=S.cs.length:=by omega
   rw [hme,csB_all] at hR
   clear hme
   go_wp2
   go_ret
   exact ⟨_,rfl,hR.out,hB.out⟩
end Go.Proofs.YteflhbfgpknabaaGreatDoor
