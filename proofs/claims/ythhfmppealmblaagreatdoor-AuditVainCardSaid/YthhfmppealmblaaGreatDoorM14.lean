/-
  A part of the proof: AR1.
-/
import Derived.Test.YthhfmppealmblaaGreatDoorM07
import Derived.Test.YthhfmppealmblaaGreatDoorM12
import Derived.Test.YthhfmppealmblaaGreatDoorM13
import Derived.Maps.AppendAt
import Derived.Lib.AppendZeros
namespace Go.Proofs.YthhfmppealmblaaGreatDoor
open Go.RowKit
theorem append_src (W:World) (base:Nat) (t e:TypeId) (i:TypeInfo) (z:Value) (size bytes:Nat) (ht:Tryz.prog.underlying t=some (.slice e)) (hi:Tryz.prog.info? e=some i) (hz:i.zero=some z) (hsize:i.size=size) (hby:i.bytes=bytes) (hzs:z.cells.size=size) (hsz:0<size) (hb64:bytes≤64)
  (V:Value) (n:Nat) (xs:List Value) (hown:W.ownsRow base e size V n xs) (v:Value) (rows:List (List Value)) (hk:∀ r∈rows,r.length=size) (h1:∀ u∈rows.flatten,u.oneCell'=true) (hv:ARd W v size rows) (hl:n+rows.length≤1000000000) (hb:base≤W.heap.size) :
  ∃ V' w',(Builtin.append_ #[t,t] t #[V,v]).run Tryz.prog W = .ok V' w'∧w'.ownsRow base e size V' (n+rows.length) (xs++rows.flatten)∧W.grownBy w' V.ownBlock:=by
 obtain ⟨a,c,rfl,hc⟩:=hv
 have hfl:=flat_len rows hk
 have hbb:(n+rows.length) * bytes≤140737488355328:=by
  have:=Nat.mul_le_mul hl hb64
  omega
 have key:∀ ad,a=some ad→(∀ j u,rows.flatten[j]?=some u→W.cell? (ad.add j)=some u)→∃ V' w',(Builtin.append_ #[t,t] t #[V,.slice a rows.length c]).run Tryz.prog W = .ok V' w'∧w'.ownsRow base e size V' (n+rows.length) (xs++rows.flatten)∧W.grownBy w' V.ownBlock:=by
  rintro ad rfl hcell
  obtain ⟨V',w',h2,h3,h4,_⟩:=run_append_own (P:=Tryz.prog) W base t t e i z size bytes ht hi hz hsize hby hzs hsz V n xs hown ad rows.length c rows.flatten hfl hcell h1 (by unfold maxLen;omega) hbb hb
  exact ⟨V',w',h2,h3,h4⟩
 rcases Nat.eq_zero_or_pos rows.length with h0 | h0
 ·have e0:rows=[]:=List.length_eq_zero_iff.1 h0
  cases a with
  | some ad=>exact key ad rfl (fun j u hj=>by rw [e0] at hj;cases hj)
  | none =>
   subst e0
   refine ⟨V,W,?_,by simpa using hown,World.grownBy.refl _ _⟩
   rcases hown.2 with ⟨rfl,rfl⟩ | ⟨g,cap,cur,rfl,_,_,hcap,_⟩
   ·simp [Builtin.append_,run_underlying ht,sizeOf,typeInfo,hi,Builtin.lenOf,Builtin.firstCells]
   ·simp [Builtin.append_,run_underlying ht,sizeOf,typeInfo,hi,Builtin.lenOf,Builtin.firstCells,hcap,storeCells]
 ·obtain ⟨b,o,rfl,_,_⟩:=hc 0 h0
  refine key _ rfl fun j u hj=>?_
  have hj2:j<rows.length * size:=by rw [← hfl];exact (List.getElem?_eq_some_iff.1 hj).1
  have hq:j / size<rows.length:=Nat.div_lt_of_lt_mul (by rw [Nat.mul_comm];exact hj2)
  have hm:j % size<size:=Nat.mod_lt _ hsz
  obtain ⟨b2,o2,e2,_,hr⟩:=hc (j / size) hq
  cases e2
  have h5:=flat_get rows hk (j / size) hq (j % size) hm
  have h6:j / size * size+j % size=j:=by rw [Nat.mul_comm];exact Nat.div_add_mod j size
  rw [h6,hj] at h5
  have h7:=hr (j % size) u h5.symm
  rw [Addr.add_lit]
  rw [Nat.add_assoc,h6] at h7
  exact h7
theorem int_info:(Tryz.prog.info? 2).map (fun i=>(i.zero,i.size,i.bytes))=some (some (.int .i64 0),1,8):=by kernel_rfl
theorem append_i64 (W:World) (base:Nat) (V:Value) (xs:List Int) (hown:W.ownsRow base 2 1 V xs.length (iCs xs)) (v:Value) (l:List Int) (hv:ARd W v 1 (l.map iC)) (hl:xs.length+l.length≤1000000000) (hb:base≤W.heap.size) :
  ∃ V' w',(Builtin.append_ #[39,39] 39 #[V,v]).run Tryz.prog W = .ok V' w'∧w'.ownsRow base 2 1 V' (xs++l).length (iCs (xs++l))∧W.grownBy w' V.ownBlock:=by
 obtain ⟨i0,hi,hz0,hz1,hz2⟩:=info_parts int_info
 obtain ⟨V',w',h1,h2,h3⟩:=append_src W base 39 2 i0 _ 1 8 Tryz.underlying39 hi hz0 hz1 hz2 rfl (by omega) (by omega) V xs.length (iCs xs) hown v (l.map iC) (by intro r hr;obtain ⟨p,_,rfl⟩:=List.mem_map.1 hr;rfl) (by rw [← iCs_flat];intro u hu;obtain ⟨p,_,rfl⟩:=List.mem_map.1 hu;rfl) hv (by simpa using hl) hb
 refine ⟨V',w',h1,?_,h3⟩
 rw [List.length_map,← iCs_flat] at h2
 rw [List.length_append]
 unfold iCs at h2 ⊢
 rw [List.map_append]
 exact h2
set_option maxRecDepth 100000 in
set_option maxHeartbeats 3200000 in
theorem in34_any (l:List Pp) (v:Value) (p:Pp) (w:World) (hv:ARd w v 2 (l.map ppC)) (hl:l.length≤1000000) :
  Calls Tryz.prog 22 #[v,.agg #[.int .i64 p.1,.int .i64 p.2]] w (BoolR (decide (p∈l)) w):=by
 obtain ⟨a,c,ev⟩:=hv.form
 rw [List.length_map] at ev
 subst ev
 have HV:=Lib.hid hv
 have hb0:Below w.heap.size w (w.alloc (.cells #[.int .i64 p.1,.int .i64 p.2] 45)):=(Below.refl _ w).alloc (Nat.le_refl _) _
 have k0:Blk (w.alloc (.cells #[.int .i64 p.1,.int .i64 p.2] 45)) w.heap.size 45 #[.int .i64 p.1,.int .i64 p.2]:=Blk.new w _ _
 obtain ⟨W0,hW0⟩:∃ W0,W0=w.alloc (.cells #[.int .i64 p.1,.int .i64 p.2] 45):=⟨_,rfl⟩
 rw [← hW0] at hb0 k0
 have HB0:=Lib.hid hb0
 have HK0:=Lib.hid k0
 have HW0:=Lib.hid hW0
 have hrefl:RowKit.Hid (Below W0.heap.size W0 W0):=Lib.hid (Below.refl _ _)
 clear hb0 k0 hW0 hv
 go_enter Tryz.func22,Tryz.ntmps22
 go_wp2
 rw [← HW0.out]
 go_loopw [5] (fun x wr=>∃ k:Nat,k≤l.length∧x = .int .i64 k∧RowKit.Hid (p ∉ l.take k)∧RowKit.Hid (Below W0.heap.size W0 wr)) (fun x _=>l.length-(intOf x).toNat)
 case atStart=>exact ⟨0,by omega,rfl,Lib.hid (by simp),hrefl⟩
 obtain ⟨k,hk,rfl,hE,hW⟩:=hrel
 by_cases hlt:k<l.length
 ·obtain ⟨b,o,c',ev',hbl,hc⟩:=(HV.out.later (below_step HB0.out hW.out)).at k (by simpa using hlt)
  rw [List.getElem_map] at hc
  rw [List.length_map] at ev'
  cases ev'
  have q0:wr.cell? ⟨b,o+k * 2,none⟩=some (.int .i64 l[k].1):=hc 0 _ rfl
  have q1:wr.cell? ⟨b,o+k * 2+1,none⟩=some (.int .i64 l[k].2):=hc 1 _ rfl
  obtain ⟨c0,c1,_,_⟩:=(HK0.out.below hW.out).two
  have hk2:(k:Int)<(l.length:Int):=by omega
  by_cases he:l[k]=p
  ·have hq:=eqPp (decide_eq_true he)
   have HT:=Lib.hid (show decide (p∈l)=true from decide_eq_true (by rw [← he];exact List.getElem_mem hlt))
   have HBE:=Lib.hid (below_step HB0.out hW.out)
   clear he hc
   go_wp2_with fail
   go_quiet (fail)
   go_wp2
   go_ret
   exact boolR HT.out (below_drewN HBE.out _)
  ·have hq:=eqPp (decide_eq_false he)
   have HNE:=Lib.hid (show p ∉ l.take (k+1) by
    rw [List.take_succ_eq_append_getElem hlt,List.mem_append,List.mem_singleton]
    rintro (h | h)
    ·exact hE.out h
    ·exact he h.symm)
   clear he hc
   go_wp2_with fail
   go_quiet (fail)
   go_wp2
   go_roundw
   case rel=>exact ⟨k+1,by omega,by go_num,HNE,Lib.hid (below_drewN hW.out _)⟩
   case measure=>simp [intOf];omega
 ·have hk2:¬ ((k:Int)<(l.length:Int)):=by omega
  have HT:=Lib.hid (show decide (p∈l)=false from decide_eq_false (by have:=hE.out;rwa [List.take_of_length_le (by omega)] at this))
  have HBE:=Lib.hid (below_step HB0.out hW.out)
  go_wp2
  go_ret
  exact boolR HT.out HBE.out
set_option maxRecDepth 100000 in
set_option maxHeartbeats 3200000 in
theorem in31_any (l:List Pp) (v:Value) (p:Pp) (w:World) (hv:ARd w v 2 (l.map ppC)) (hl:l.length≤1000000) :
  Calls Tryz.prog 56 #[v,.agg #[.int .i64 p.1,.int .i64 p.2]] w (BoolR (decide (p∈l)) w):=by
 obtain ⟨a,c,ev⟩:=hv.form
 rw [List.length_map] at ev
 subst ev
 have HV:=Lib.hid hv
 have hb0:Below w.heap.size w (w.alloc (.cells #[.int .i64 p.1,.int .i64 p.2] 45)):=(Below.refl _ w).alloc (Nat.le_refl _) _
 have k0:Blk (w.alloc (.cells #[.int .i64 p.1,.int .i64 p.2] 45)) w.heap.size 45 #[.int .i64 p.1,.int .i64 p.2]:=Blk.new w _ _
 obtain ⟨W0,hW0⟩:∃ W0,W0=w.alloc (.cells #[.int .i64 p.1,.int .i64 p.2] 45):=⟨_,rfl⟩
 rw [← hW0] at hb0 k0
 have HB0:=Lib.hid hb0
 have HK0:=Lib.hid k0
 have HW0:=Lib.hid hW0
 have hrefl:RowKit.Hid (Below W0.heap.size W0 W0):=Lib.hid (Below.refl _ _)
 clear hb0 k0 hW0 hv
 go_enter Tryz.func56,Tryz.ntmps56
 go_wp2
 rw [← HW0.out]
 go_loopw [5] (fun x wr=>∃ k:Nat,k≤l.length∧x = .int .i64 k∧RowKit.Hid (p ∉ l.take k)∧RowKit.Hid (Below W0.heap.size W0 wr)) (fun x _=>l.length-(intOf x).toNat)
 case atStart=>exact ⟨0,by omega,rfl,Lib.hid (by simp),hrefl⟩
 obtain ⟨k,hk,rfl,hE,hW⟩:=hrel
 by_cases hlt:k<l.length
 ·obtain ⟨b,o,c',ev',hbl,hc⟩:=(HV.out.later (below_step HB0.out hW.out)).at k (by simpa using hlt)
  rw [List.getElem_map] at hc
  rw [List.length_map] at ev'
  cases ev'
  have q0:wr.cell? ⟨b,o+k * 2,none⟩=some (.int .i64 l[k].1):=hc 0 _ rfl
  have q1:wr.cell? ⟨b,o+k * 2+1,none⟩=some (.int .i64 l[k].2):=hc 1 _ rfl
  obtain ⟨c0,c1,_,_⟩:=(HK0.out.below hW.out).two
  have hk2:(k:Int)<(l.length:Int):=by omega
  by_cases he:l[k]=p
  ·have hq:=eqPp (decide_eq_true he)
   have HT:=Lib.hid (show decide (p∈l)=true from decide_eq_true (by rw [← he];exact List.getElem_mem hlt))
   have HBE:=Lib.hid (below_step HB0.out hW.out)
   clear he hc
   go_wp2_with fail
   go_quiet (fail)
   go_wp2
   go_ret
   exact boolR HT.out (below_drewN HBE.out _)
  ·have hq:=eqPp (decide_eq_false he)
   have HNE:=Lib.hid (show p ∉ l.take (k+1) by
    rw [List.take_succ_eq_append_getElem hlt,List.mem_append,List.mem_singleton]
    rintro (h | h)
    ·exact hE.out h
    ·exact he h.symm)
   clear he hc
   go_wp2_with fail
   go_quiet (fail)
   go_wp2
   go_roundw
   case rel=>exact ⟨k+1,by omega,by go_num,HNE,Lib.hid (below_drewN hW.out _)⟩
   case measure=>simp [intOf];omega
 ·have hk2:¬ ((k:Int)<(l.length:Int)):=by omega
  have HT:=Lib.hid (show decide (p∈l)=false from decide_eq_false (by have:=hE.out;rwa [List.take_of_length_le (by omega)] at this))
  have HBE:=Lib.hid (below_step HB0.out hW.out)
  go_wp2
  go_ret
  exact boolR HT.out HBE.out
structure TsRd (W:World) (v:Value) (ts:List Int):Prop where
 rd:ARd W v 1 (ts.map iC)
 cap:∀ a n c,v = .slice a n c→n≤c
 nil:ts=[]→v = .slice none 0 0
theorem TsRd.of_row {W:World} {base:Nat} {v:Value} {ts:List Int} (h:W.ownsRow base 2 1 v ts.length (iCs ts)) (h0:ts≠[]):TsRd W v ts:=by
 refine ⟨ARd.of_ints h,fun a n c e=>?_,fun e=>absurd e h0⟩
 rcases h.2 with ⟨rfl,h0⟩ | ⟨g,cap,cur,rfl,_,_,hcap,_⟩
 ·cases e;exact Nat.le_refl _
 ·cases e;exact hcap
theorem tsRd_nil (W:World):TsRd W (.slice none 0 0) []:=⟨ARd.empty W 1,fun a n c e=>by cases e;exact Nat.le_refl _,fun _=>rfl⟩
def TsR (ts:List Int) (w:World) (e:Ending) (w':World):Prop:=∃ v,e = .returned v∧TsRd w' v ts∧Below w.heap.size w w'
theorem tsR {ts us:List Int} (h:ts=us) {w w':World} {v:Value} (hv:TsRd w' v us) (hb:Below w.heap.size w w'):TsR ts w (.returned v) w':=⟨v,rfl,h ▸ hv,hb⟩
theorem ARd.pre {W:World} {a:Option Addr} {c:Nat} {l:List Int} (h:ARd W (.slice a l.length c) 1 (l.map iC)) {i:Nat} (hi:i≤l.length) (c':Nat):ARd W (.slice a i c') 1 ((l.take i).map iC):=by
 obtain ⟨a2,c2,e,hr⟩:=h
 rw [List.length_map] at e
 cases e
 refine ⟨a,c',by simp [Nat.min_eq_left hi],fun j hj=>?_⟩
 have hj2:j<l.length:=by simp at hj;omega
 obtain ⟨b,o,ha,hlt,hc⟩:=hr j (by simpa using hj2)
 refine ⟨b,o,ha,hlt,fun k u hk=>hc k u ?_⟩
 rw [← hk]
 simp
theorem ARd.suf {W:World} {b o c:Nat} {l:List Int} (h:ARd W (.slice (some ⟨b,o,none⟩) l.length c) 1 (l.map iC)) {i:Nat} (hi:i<l.length) (c':Nat):ARd W (.slice (some ⟨b,o+i,none⟩) (l.length-i) c') 1 ((l.drop i).map iC):=by
 obtain ⟨a2,c2,e,hr⟩:=h
 rw [List.length_map] at e
 cases e
 refine ⟨some ⟨b,o+i,none⟩,c',by simp,fun j hj=>?_⟩
 have hj2:i+j<l.length:=by simp at hj;omega
 obtain ⟨b2,o2,ha,hlt,hc⟩:=hr (i+j) (by simpa using hj2)
 cases ha
 refine ⟨b,o+i,rfl,hlt,fun k u hk=>?_⟩
 have:=hc k u (by rw [← hk];simp)
 rw [show o+(i+j) * 1+k=o+i+j * 1+k by omega] at this
 exact this
theorem row_empty (w:World) (t:TypeId):(w.alloc (.cells #[] t)).ownsRow w.heap.size t 1 (.slice (some ⟨w.heap.size,0,none⟩) 0 0) ([]:List Int).length (iCs []) :=
 ⟨rfl,.inr ⟨w.heap.size,0,#[],rfl,Nat.le_refl _,World.alloc_heap_new w _,Nat.le_refl _,Nat.zero_le _,rfl,rfl⟩⟩
theorem three_i64 (w:World) (x:Int) (l r:List Int) (vl vr:Value) (hl:ARd w vl 1 (l.map iC)) (hr:ARd w vr 1 (r.map iC)) (hn:l.length+r.length≤1000000) :
  ∃ V1 w1 V2 w2 V3 w3,(Builtin.append_ #[39,39] 39 #[.slice (some ⟨w.heap.size,0,none⟩) 0 0,vl]).run Tryz.prog (w.alloc (.cells #[] 2)) = .ok V1 w1 ∧
   (Builtin.append_ #[39,39] 39 #[V1,.slice (some ⟨w1.heap.size,0,none⟩) 1 1]).run Tryz.prog (w1.alloc (.cells #[.int .i64 x] 2)) = .ok V2 w2 ∧
   (Builtin.append_ #[39,39] 39 #[V2,vr]).run Tryz.prog w2 = .ok V3 w3∧w3.ownsRow w.heap.size 2 1 V3 (l++x :: r).length (iCs (l++x :: r))∧Below w.heap.size w w3:=by
 have hb0:Below w.heap.size w (w.alloc (.cells #[] 2)):=(Below.refl _ _).alloc (Nat.le_refl _) _
 obtain ⟨V1,w1,r1,o1,g1⟩:=append_i64 _ w.heap.size _ [] (row_empty w _) vl l (hl.later hb0) (by simp;omega) hb0.size
 rw [List.nil_append] at o1
 have hb1:Below w.heap.size w w1:=hb0.grown g1 hb0.size (fun j e=>by simp [Value.ownBlock] at e;omega)
 have hb2:Below w.heap.size w (w1.alloc (.cells #[.int .i64 x] 2)):=hb1.alloc hb1.size _
 have o1':=row_later o1 ((Below.refl _ w1).alloc (Nat.le_refl _) (.cells #[.int .i64 x] 2))
 have hx:ARd (w1.alloc (.cells #[.int .i64 x] 2)) (.slice (some ⟨w1.heap.size,0,none⟩) 1 1) 1 ([x].map iC):=⟨_,1,rfl,fun i hi=>⟨w1.heap.size,0,rfl,by simp,fun j u hj=>by
  have hi0:i=0:=by simpa using hi
  subst hi0
  have hj0:j=0:=by
   have:=(List.getElem?_eq_some_iff.1 hj).1
   simp [iC] at this
   exact this
  subst hj0
  have e:u = .int .i64 x:=by simpa [iC] using hj.symm
  rw [e]
  exact (Blk.new w1 2 #[.int .i64 x]).cell 0⟩⟩
 obtain ⟨V2,w2,r2,o2,g2⟩:=append_i64 _ w.heap.size _ l o1' _ [x] hx (by simp;omega) hb2.size
 have hb3:Below w.heap.size w w2:=hb2.grown g2 hb2.size (fun j e=>row_ge o1' e)
 obtain ⟨V3,w3,r3,o3,g3⟩:=append_i64 _ w.heap.size _ (l++[x]) o2 vr r (hr.later hb3) (by simp;omega) hb3.size
 refine ⟨V1,w1,V2,w2,V3,w3,r1,r2,r3,?_,hb3.grown g3 hb3.size (fun j e=>row_ge o2 e)⟩
 rw [List.append_assoc,List.singleton_append] at o3
 exact o3
set_option maxRecDepth 100000 in
set_option maxHeartbeats 6400000 in
theorem put_any (ts:List Int) (v:Value) (t:Int) (w:World) (hv:TsRd w v ts) (hl:ts.length≤100000) :
  Calls Tryz.prog 46 #[v,.int .i64 t] w (TsR (putT ts t) w):=by
 obtain ⟨a,c,rfl⟩:=hv.rd.intForm
 have HV:=Lib.hid hv
 have hcap:=hv.cap a ts.length c rfl
 clear hv
 go_enter Tryz.func46,Tryz.ntmps46
 go_wp2
 go_loop [5] (fun x=>∃ i:Nat,i≤ts.length∧x = .int .i64 i∧RowKit.Hid (∀ j (hj:j<ts.length),j<i→ts[j]<t)) (fun x=>ts.length-(intOf x).toNat)
 case atStart=>exact ⟨0,Nat.zero_le _,rfl,Lib.hid (fun j _ hj=>absurd hj (Nat.not_lt_zero j))⟩
 obtain ⟨i,hi,rfl,hB⟩:=hrel
 by_cases hil:i<ts.length
 ·obtain ⟨b,o,c',ev,hbl,q0⟩:=HV.out.rd.intAt i hil
  cases ev
  have hi2:(i:Int)<(ts.length:Int):=by omega
  have hd1:decide (i<ts.length)=true:=decide_eq_true hil
  obtain ⟨x,hx⟩:∃ x,ts[i]=x:=⟨_,rfl⟩
  rw [hx] at q0
  have HX:=Lib.hid hx
  clear hx
  by_cases hlt:x<t
  ·have hd2:decide (x<t)=true:=decide_eq_true hlt
   have HB2:=Lib.hid (show ∀ j (hj:j<ts.length),j<i+1→ts[j]<t from fun j hj h=>by
    by_cases e:j=i
    ·subst e;rw [HX.out];exact hlt
    ·exact hB.out j hj (by omega))
   clear hlt
   go_wp2
   go_round
   case rel=>exact ⟨i+1,by omega,by go_num,HB2⟩
   case measure=>simp [intOf];omega
  ·have hd2:decide (x<t)=false:=decide_eq_false hlt
   have HP:=Lib.hid (putT_at (t:=t) hi hB.out (fun _=>by rw [HX.out];exact hlt))
   rw [dif_pos hil,HX.out] at HP
   by_cases he:x=t
   ·have hq:(x==t)=true:=by rw [beq_iff_eq];exact he
    rw [if_pos he] at HP
    clear hlt he
    go_wp2
    go_ret
    exact tsR HP.out HV.out (Below.refl _ _)
   ·have hq:(x==t)=false:=by rw [beq_eq_false_iff_ne];exact he
    rw [if_neg he] at HP
    have hic:¬ i=c:=by omega
    have HPRE:=Lib.hid (HV.out.rd.pre hi c)
    have HSUF:=Lib.hid (HV.out.rd.suf hil (c-i))
    clear hlt he
    obtain ⟨V1,w1,V2,w2,V3,w3,hr1,hr2,hr3,ho,hb⟩:=three_i64 w t _ _ _ _ HPRE.out HSUF.out (by simp;omega)
    have HO:=Lib.hid ho
    have HB:=Lib.hid hb
    clear ho hb
    go_wp2_with (first | (at_builtin;refine Lib.wpList_append_run _ rfl _ _ _ _ rfl _ _ rfl rfl _ _ hr1 ?_) | (at_builtin;refine Lib.wpList_append_run _ rfl _ _ _ _ rfl _ _ rfl rfl _ _ hr2 ?_) | (at_builtin;refine Lib.wpList_append_run _ rfl _ _ _ _ rfl _ _ rfl rfl _ _ hr3 ?_))
    go_ret
    exact tsR HP.out (TsRd.of_row HO.out (by simp)) HB.out
 ·have hi2:¬ (i:Int)<(ts.length:Int):=by omega
  have hie:i=ts.length:=by omega
  have HP:=Lib.hid (putT_at (t:=t) hi hB.out (fun h=>absurd h hil))
  rw [dif_neg hil] at HP
  have hd1:decide (i<ts.length)=false:=decide_eq_false hil
  clear hB
  rcases Nat.eq_zero_or_pos ts.length with h0 | h0
  ·have h1:ts=[]:=List.length_eq_zero_iff.1 h0
   subst h1
   have e:=HV.out.nil rfl
   cases e
   have hi0:i=0:=by simpa using hie
   subst hi0
   obtain ⟨V1,w1,V2,w2,V3,w3,hr1,hr2,hr3,ho,hb⟩:=three_i64 w t [] [] _ (.slice none 0 0) (ARd.empty w 1) ⟨_,_,rfl,fun i hi=>absurd hi (Nat.not_lt_zero i)⟩ (by simp)
   have HO:=Lib.hid ho
   have HB:=Lib.hid hb
   clear ho hb
   clear h0 hie hi hil hi2 hd1
   go_wp2_with (first | (at_builtin;refine Lib.wpList_append_run _ rfl _ _ _ _ rfl _ _ rfl rfl _ _ hr1 ?_) | (at_builtin;refine Lib.wpList_append_run _ rfl _ _ _ _ rfl _ _ rfl rfl _ _ hr2 ?_) | (at_builtin;refine Lib.wpList_append_run _ rfl _ _ _ _ rfl _ _ rfl rfl _ _ hr3 ?_))
   go_ret
   exact tsR HP.out (TsRd.of_row HO.out (by simp)) HB.out
  ·obtain ⟨b,o,c',ev,hbl,q0⟩:=HV.out.rd.intAt 0 h0
   cases ev
   have HPRE:=Lib.hid (HV.out.rd.pre hi c)
   rw [List.take_of_length_le (by omega)] at HPRE
   clear q0
   by_cases hic:i=c
   ·subst hic
    obtain ⟨V1,w1,V2,w2,V3,w3,hr1,hr2,hr3,ho,hb⟩:=three_i64 w t ts [] _ (.slice (some ⟨b,o,none⟩) 0 0) HPRE.out ⟨_,_,rfl,fun i hi=>absurd hi (Nat.not_lt_zero i)⟩ (by simp;omega)
    have HO:=Lib.hid ho
    have HB:=Lib.hid hb
    clear ho hb
    have HIE:=Lib.hid hie
    clear hie
    go_wp2_with (first | (at_builtin;refine Lib.wpList_append_run _ rfl _ _ _ _ rfl _ _ rfl rfl _ _ hr1 ?_) | (at_builtin;refine Lib.wpList_append_run _ rfl _ _ _ _ rfl _ _ rfl rfl _ _ hr2 ?_) | (at_builtin;refine Lib.wpList_append_run _ rfl _ _ _ _ rfl _ _ rfl rfl _ _ hr3 ?_))
    go_ret
    exact tsR HP.out (TsRd.of_row HO.out (by simp)) HB.out
   ·have hic2:¬ c=i:=fun e=>hic e.symm
    obtain ⟨V1,w1,V2,w2,V3,w3,hr1,hr2,hr3,ho,hb⟩:=three_i64 w t ts [] _ (.slice (some ⟨b,o+i,none⟩) (ts.length-i) (c-i)) HPRE.out ⟨_,_,by rw [show ts.length-i=0 by omega];rfl,fun i hi=>absurd hi (Nat.not_lt_zero i)⟩ (by simp;omega)
    have HO:=Lib.hid ho
    have HB:=Lib.hid hb
    clear ho hb
    have HIE:=Lib.hid hie
    clear hie
    go_wp2_with (first | (at_builtin;refine Lib.wpList_append_run _ rfl _ _ _ _ rfl _ _ rfl rfl _ _ hr1 ?_) | (at_builtin;refine Lib.wpList_append_run _ rfl _ _ _ _ rfl _ _ rfl rfl _ _ hr2 ?_) | (at_builtin;refine Lib.wpList_append_run _ rfl _ _ _ _ rfl _ _ rfl rfl _ _ hr3 ?_))
    go_ret
    exact tsR HP.out (TsRd.of_row HO.out (by simp)) HB.out
end Go.Proofs.YthhfmppealmblaaGreatDoor
