/-
  A part of the proof: AQ.
-/
import Derived.Test.YthhfmppealmblaaGreatDoorM03
import Derived.Test.YthhfmppealmblaaGreatDoorM05
import Derived.Test.YthhfmppealmblaaGreatDoorM06
import Derived.RegionTactic
import Derived.ChangeAlike
import Derived.BigRegion
import Derived.Deep.RegionHeld3
import Derived.Deep.QuietTactic
import Derived.BigQuiet
namespace Go.Proofs.YthhfmppealmblaaGreatDoor
open Go.RowKit
def cntP:List Rk→Int
 | []=>0
 | r :: l=>r.cnt+cntP l
theorem cntP_append (a b:List Rk):cntP (a++b)=cntP a+cntP b:=by
 induction a with
 | nil=>simp [cntP]
 | cons x l ih=>rw [List.cons_append,cntP,cntP,ih];omega
theorem cntP_take {l:List Rk} {k:Nat} (h:k<l.length):cntP (l.take (k+1))=cntP (l.take k)+l[k].cnt:=by
 rw [List.take_succ_eq_append_getElem h,cntP_append]
 simp [cntP]
theorem cntP_bound:∀ {l:List Rk},(∀ r∈l,rkE r=0)→0≤cntP l∧cntP l≤97 * (l.length:Int)
 | [],_=>by simp [cntP]
 | r :: l,h=>by
  have hr:=h r (by simp)
  have ih:=cntP_bound (l:=l) (fun x hx=>h x (by simp [hx]))
  have:1≤r.cnt∧r.cnt≤97:=by
   unfold rkE at hr
   split at hr
   ·split at hr
    ·omega
    ·omega
   ·omega
  rw [cntP,List.length_cons]
  omega
def pipesP (S:Sp):Int × Int:=if (checkP S).2=0 then (cntP S.rs,0) else (0,(checkP S).2)
theorem checkP_zero {S:Sp} (h:(checkP S).2=0):checkP S=((0,0,0),0)∧S.ds.length≤6∧S.rs.length≤40∧S.ss.length≤80∧S.cs.length≤24∧fst0 (errD S) S.ds.length=none∧fst0 (errR S) S.rs.length=none∧(∀ j,j<S.ss.length→(stopE S j).2=0)∧fst0 (errC S) S.cs.length=none:=by
 have hl:¬ (6<S.ds.length∨40<S.rs.length∨80<S.ss.length∨24<S.cs.length):=by
  intro hl
  rw [check_toolong hl] at h
  cases h
 cases hD:fst0 (errD S) S.ds.length with
 | some i=>rw [checkP_d hl hD] at h;exact absurd h (fst0_is hD).2.1
 | none =>
  cases hR:fst0 (errR S) S.rs.length with
  | some i=>rw [checkP_r hl hD hR] at h;exact absurd h (fst0_is hR).2.1
  | none =>
   cases hS:fst0 (fun i=>(stopE S i).2) S.ss.length with
   | some i =>
    obtain ⟨h1,h2,h3⟩:=fst0_is hS
    rw [checkP_s hl hD hR h1 h2 h3] at h
    exact absurd h h2
   | none =>
    have hS':=fst0_none.1 hS
    cases hC:fst0 (errC S) S.cs.length with
    | some i=>rw [checkP_c hl hD hR hS' hC] at h;exact absurd h (fst0_is hC).2.1
    | none=>exact ⟨checkP_ok hl hD hR hS' hC,by omega,by omega,by omega,by omega,rfl,rfl,hS',rfl⟩
set_option maxRecDepth 100000 in
set_option maxHeartbeats 3200000 in
theorem rpipes_any (v1 v2 v3 v4:Value) (S:Sp) (ok:SpOk S) (w:World) (f:Nat→Value) (hsp:SpRd w v1 v2 v3 v4 f S) :
  Calls Tryz.prog 40 #[.agg #[v1,v2,v3,v4]] w fun e w'=>e = .returned (.tuple #[.int .i64 (pipesP S).1,.int .i64 (pipesP S).2])∧Below w.heap.size w w':=by
 have HSP:=Lib.hid hsp
 have HOK:=Lib.hid ok
 have hb0:Below w.heap.size w (w.alloc (.cells #[v1,v2,v3,v4] 27)):=(Below.refl _ w).alloc (Nat.le_refl _) _
 have k0:Blk (w.alloc (.cells #[v1,v2,v3,v4] 27)) w.heap.size 27 #[v1,v2,v3,v4]:=Blk.new w _ _
 have HC:=Lib.hid (rcheck_any v1 v2 v3 v4 S ok _ f (hsp.later hb0))
 obtain ⟨a2,c2,ev2⟩:=hsp.forms.2.1
 subst ev2
 obtain ⟨er,her⟩:∃ er,er=(checkP S).2:=⟨_,rfl⟩
 obtain ⟨fl,hfl⟩:∃ fl,fl=(checkP S).1:=⟨_,rfl⟩
 have hcv:ckV (checkP S) = .tuple #[.agg #[.int .i64 fl.1,.int .i64 fl.2.1,.int .i64 fl.2.2],.int .i64 er]:=by unfold ckV;rw [her,hfl]
 rw [hcv] at HC
 by_cases hz:er=0
 ·have hP:pipesP S=(cntP S.rs,0):=by unfold pipesP;rw [if_pos (her.symm.trans hz)]
  have HP:=Lib.hid hP
  obtain ⟨h1,h2,h3,h4,h5,h6,h7,h8,h9⟩:=checkP_zero (her.symm.trans hz)
  have HR:=Lib.hid (all_rkE h7)
  have hl:S.rs.length≤40:=h3
  rw [hz] at HC
  clear h1 h2 h3 h4 h5 h6 h7 h8 h9 hP hcv her hfl hz ok hsp
  go_enter Tryz.func40,Tryz.ntmps40
  go_wp2_with fail
  refine (HC.out).mono ?_
  rintro e w1 ⟨rfl,hb1⟩
  have k1:=k0.below hb1
  have hb:=below_step hb0 hb1
  obtain ⟨s0,s1,s2,s3⟩:=(k1.alloc (.cells #[.int .i64 fl.1,.int .i64 fl.2.1,.int .i64 fl.2.2] 100)).four
  have hbA:Below w.heap.size w (w1.alloc (.cells #[.int .i64 fl.1,.int .i64 fl.2.1,.int .i64 fl.2.2] 100)):=hb.alloc hb.size _
  have HBA:=Lib.hid hbA
  have HSA:=Lib.hid (HSP.out.later hbA)
  have hbd:∀ k,k≤S.rs.length→0≤cntP (S.rs.take k)∧cntP (S.rs.take k)≤97 * (S.rs.length:Int):=by
   intro k hk
   have h:=cntP_bound (l:=S.rs.take k) (fun r hr=>HR.out r (List.mem_of_mem_take hr))
   have:(S.rs.take k).length≤S.rs.length:=by rw [List.length_take];omega
   omega
  have HBD:=Lib.hid hbd
  clear hbd hbA
  go_wp2
  go_loop [6,7] (fun n x=>∃ k:Nat,k≤S.rs.length∧x = .int .i64 k∧n = .int .i64 (cntP (S.rs.take k))) (fun _ x=>S.rs.length-(intOf x).toNat)
  case atStart=>exact ⟨0,by omega,rfl,by simp [cntP]⟩
  obtain ⟨k,hk,rfl,rfl⟩:=hrel
  by_cases hlt:k<S.rs.length
  ·obtain ⟨b,o,c,ev,hbl,r0,r1,r2,r3,r4,r5⟩:=HSA.out.rAt k hlt
   cases ev
   have hk2:(k:Int)<(S.rs.length:Int):=by omega
   have hq:=cntP_take hlt
   have hb1':=HBD.out k hk
   have hb2':=HBD.out (k+1) (by omega)
   have e3:IntKind.i64.wrap (cntP (S.rs.take k)+S.rs[k].cnt)=cntP (S.rs.take (k+1)):=by rw [hq];exact IntWalk.i64_in _ (by omega)
   have HQ:=Lib.hid hq
   clear hq
   go_wp2
   go_round
   case rel=>exact ⟨k+1,by omega,by go_num,by rw [HQ.out]⟩
   case measure=>simp [intOf];omega
  ·have hke:k=S.rs.length:=by omega
   have hk2:¬ ((k:Int)<(S.rs.length:Int)):=by omega
   have HT:=Lib.hid (show cntP (S.rs.take k)=cntP S.rs by rw [hke,List.take_length])
   go_wp2
   refine bodyPost_ret (v:=.tuple #[.int .i64 (cntP (S.rs.take k)),.int .i64 0]) (by simp [results,Tryz.results40,go_sem] <;> exact HT.out.symm) rfl ⟨by rw [HP.out,HT.out],HBA.out⟩
 ·have hP:pipesP S=(0,er):=by unfold pipesP;rw [if_neg (fun h=>hz (her.trans h)),her]
  have HP:=Lib.hid hP
  have b1:(er==0)=false:=beq_eq_false_iff_ne.2 hz
  clear hP hcv her hfl hz ok hsp
  go_enter Tryz.func40,Tryz.ntmps40
  go_wp2_with fail
  refine (HC.out).mono ?_
  rintro e w1 ⟨rfl,hb1⟩
  have hb:=below_step hb0 hb1
  go_wp2
  refine bodyPost_ret (v:=.tuple #[.int .i64 0,.int .i64 er]) (by simp [results,Tryz.results40,go_sem]) rfl ⟨by rw [HP.out],hb.alloc hb.size _⟩
def plB (y:Pt) (key:Int) (p:Pp):Bool:=decide (y.rank=p.1∧y.lo≤key∧key≤y.hi∧key+y.shift=p.2)
structure PlSt (w:World) (cx cp:Array Value) (W:World):Prop where
 st:Blk W w.heap.size 151 cx
 pp:Blk W (w.heap.size+1) 45 cp
 low:Below w.heap.size w W
theorem PlSt.below {w W W':World} {cx cp:Array Value} (h:PlSt w cx cp W) (hb:Below W.heap.size W W'):PlSt w cx cp W':=⟨h.st.below hb,h.pp.below hb,below_step h.low hb⟩
theorem PlSt.new (w:World) (cx cp:Array Value):PlSt w cx cp ((w.alloc (.cells cx 151)).alloc (.cells cp 45)) where
 st:=(Blk.new w _ _).alloc _
 pp:=by
  have:=Blk.new (w.alloc (.cells cx 151)) 45 cp
  rwa [World.size_alloc] at this
 low:=((Below.refl _ w).alloc (Nat.le_refl _) _).alloc (by simp) _
set_option maxRecDepth 100000 in
set_option maxHeartbeats 3200000 in
theorem rplays_any (x:St) (v:Value) (key:Int) (p:Pp) (w:World) (hv:ARd w v 4 (x.parts.map ptC)) (hl:x.parts.length≤1000) (hr:∀ y∈x.parts,-96≤y.shift∧y.shift≤96) (hk : -1000≤key∧key≤1000) :
  Calls Tryz.prog 115 #[.agg #[.string x.name,.int .i64 x.div,.int .i64 x.num,.int .i64 x.den,v],.int .i64 key,.agg #[.int .i64 p.1,.int .i64 p.2]] w fun e w'=>e = .returned (.bool (playsB x key p))∧Below w.heap.size w w':=by
 obtain ⟨a,c,ev⟩:=hv.form
 rw [List.length_map] at ev
 subst ev
 have HV:=Lib.hid hv
 have HST:=Lib.hid (PlSt.new w #[.string x.name,.int .i64 x.div,.int .i64 x.num,.int .i64 x.den,.slice a x.parts.length c] #[.int .i64 p.1,.int .i64 p.2])
 go_enter Tryz.func115,Tryz.ntmps115
 go_wp2
 go_loopw [7] (fun n wr=>∃ k:Nat,k≤x.parts.length∧n = .int .i64 k∧RowKit.Hid (∀ j (h:j<x.parts.length),j<k→plB x.parts[j] key p=false)∧RowKit.Hid (PlSt w #[.string x.name,.int .i64 x.div,.int .i64 x.num,.int .i64 x.den,.slice a x.parts.length c] #[.int .i64 p.1,.int .i64 p.2] wr)) (fun n _=>x.parts.length-(intOf n).toNat)
 case atStart=>exact ⟨0,by omega,rfl,Lib.hid (fun j _ hj=>by omega),HST⟩
 obtain ⟨k,hk',rfl,hE,hS⟩:=hrel
 have t3:=hS.out.st.cell 4
 by_cases hlt:k<x.parts.length
 ·obtain ⟨b,o,c',ev',hbl,hc⟩:=(HV.out.later hS.out.low).at k (by simpa using hlt)
  rw [List.getElem_map] at hc
  have q0:wr.cell? ⟨b,o+k * 4,none⟩=some (.int .i64 x.parts[k].rank):=hc 0 _ rfl
  have q1:wr.cell? ⟨b,o+k * 4+1,none⟩=some (.int .i64 x.parts[k].shift):=hc 1 _ rfl
  have q2:wr.cell? ⟨b,o+k * 4+2,none⟩=some (.int .i64 x.parts[k].lo):=hc 2 _ rfl
  have q3:wr.cell? ⟨b,o+k * 4+3,none⟩=some (.int .i64 x.parts[k].hi):=hc 3 _ rfl
  rw [List.length_map] at ev'
  cases ev'
  have hk2:(k:Int)<(x.parts.length:Int):=by omega
  have hsh:=hr x.parts[k] (List.getElem_mem hlt)
  have u0:∀ cs,(wr.alloc (.cells cs 148)).cell? ⟨w.heap.size+1,0,none⟩=some (.int .i64 p.1):=fun cs=>(hS.out.pp.alloc (.cells cs 148)).cell 0
  have u1:∀ cs,(wr.alloc (.cells cs 148)).cell? ⟨w.heap.size+1,1,none⟩=some (.int .i64 p.2):=fun cs=>(hS.out.pp.alloc (.cells cs 148)).cell 1
  go_wp2
  all_goals first
   | (have HT:=Lib.hid (show playsB x key p=true from List.any_eq_true.2 ⟨x.parts[k],List.getElem_mem hlt,decide_eq_true ⟨by assumption,by assumption,by assumption,beq_iff_eq.1 (by assumption)⟩⟩);go_ret;exact ⟨by rw [HT.out];rfl,hS.out.low.alloc hS.out.low.size _⟩)
   | (refine ⟨⟨k+1,by omega,by go_num,Lib.hid (fun j h hj=>by rcases Nat.lt_succ_iff_lt_or_eq.1 hj with h' | h';exact hE.out j h h';subst h';unfold plB;rw [decide_eq_false_iff_not];rintro ⟨g1,g2,g3,g4⟩;first | omega | simp_all),Lib.hid (hS.out.below ((Below.refl _ _).alloc (Nat.le_refl _) _))⟩,by simp [intOf];omega⟩)
 ·have hk2:¬ ((k:Int)<(x.parts.length:Int)):=by omega
  have HF:=Lib.hid (show playsB x key p=false from List.any_eq_false.2 (fun y hy=>by
   obtain ⟨j,hj,rfl⟩:=List.mem_iff_getElem.1 hy
   have:=hE.out j hj (by omega)
   unfold plB at this
   simpa using this))
  have HL:=Lib.hid hS.out.low
  go_wp2
  go_ret
  exact ⟨by rw [HF.out];rfl,HL.out⟩
def ppC (p:Pp):List Value:=[.int .i64 p.1,.int .i64 p.2]
def ppCs (l:List Pp):List Value:=(l.map ppC).flatten
theorem ppCs_snoc (l:List Pp) (p:Pp):ppCs (l++[p])=ppCs l++[.int .i64 p.1,.int .i64 p.2]:=by simp [ppCs,ppC]
theorem ARd.of_pps {W:World} {base:Nat} {t:TypeId} {v:Value} {l:List Pp} (h:W.ownsRow base t 2 v l.length (ppCs l)):ARd W v 2 (l.map ppC) :=
 ARd.of_row (by intro r hr;obtain ⟨p,_,rfl⟩:=List.mem_map.1 hr;rfl) (by rw [List.length_map];exact h)
theorem pp_info:(Tryz.prog.info? 45).map (fun i=>(i.zero,i.size,i.bytes))=some (some (.agg #[.int .i64 0,.int .i64 0]),2,16):=by kernel_rfl
theorem allFrom_append:∀ (n:Int) (a b:List Rk),allFrom n (a++b)=allFrom n a++allFrom (n+a.length) b
 | n,[],b=>by simp [allFrom]
 | n,r :: a,b=>by
  rw [List.cons_append,allFrom,allFrom_append (n+1) a b,allFrom,List.append_assoc,List.length_cons]
  congr 3
  push_cast
  omega
theorem allFrom_take {l:List Rk} {k:Nat} (h:k<l.length):allFrom 0 (l.take (k+1))=allFrom 0 (l.take k)++ofRank k l[k].low l[k].cnt.toNat:=by
 rw [List.take_succ_eq_append_getElem h,allFrom_append,List.length_take,Nat.min_eq_left (Nat.le_of_lt h)]
 simp [allFrom]
theorem ofRank_len (i lo:Int) (n:Nat):(ofRank i lo n).length=n:=by
 induction n with
 | zero=>rfl
 | succ n ih=>rw [ofRank,List.length_append,ih];rfl
theorem allFrom_len {l:List Rk} (h:∀ r∈l,rkE r=0):∀ (n:Int),(allFrom n l).length≤97 * l.length:=by
 induction l with
 | nil=>intro n;simp [allFrom]
 | cons r l ih =>
  intro n
  have hr:=h r (by simp)
  have h2:=ih (fun x hx=>h x (by simp [hx])) (n+1)
  have:1≤r.cnt∧r.cnt≤97:=by
   unfold rkE at hr
   split at hr
   ·split at hr
    ·omega
    ·omega
   ·omega
  rw [allFrom,List.length_append,ofRank_len,List.length_cons]
  omega
theorem rk_ok {r:Rk} (hr:rkE r=0):1≤r.cnt∧r.cnt≤97∧0≤r.low∧r.low+r.cnt≤128:=by
 unfold rkE at hr
 split at hr
 ·split at hr
  ·omega
  ·omega
 ·omega
theorem pps_step {W:World} {base:Nat} {t:TypeId} {v:Value} {l:List Pp} {n:Nat} {p:Pp} (h:W.ownsRow base t 2 v n (ppCs l++[.int .i64 p.1,.int .i64 p.2])) (hn:n=l.length+1):W.ownsRow base t 2 v (l++[p]).length (ppCs (l++[p])):=by
 rw [ppCs_snoc,List.length_append,List.length_singleton,← hn]
 exact h
set_option maxRecDepth 100000 in
set_option maxHeartbeats 3200000 in
theorem rall_any (v1 v2 v3 v4:Value) (S:Sp) (w:World) (f:Nat→Value) (hsp:SpRd w v1 v2 v3 v4 f S) (hn:S.rs.length≤40) (hr:∀ r∈S.rs,rkE r=0) :
  Calls Tryz.prog 20 #[.agg #[v1,v2,v3,v4]] w fun e w'=>∃ v,e = .returned v∧w'.ownsRow w.heap.size 45 2 v (allFrom 0 S.rs).length (ppCs (allFrom 0 S.rs))∧Below w.heap.size w w':=by
 have HSP:=Lib.hid hsp
 have HR:=Lib.hid hr
 obtain ⟨a2,c2,ev2⟩:=hsp.forms.2.1
 subst ev2
 obtain ⟨i0,hi,hz0,hz1,hz2⟩:=info_parts pp_info
 obtain ⟨W0,hW0⟩:∃ W0,W0=w.alloc (.cells #[v1,.slice a2 S.rs.length c2,v3,v4] 27):=⟨_,rfl⟩
 have hb0:Below w.heap.size w W0:=by rw [hW0];exact (Below.refl _ w).alloc (Nat.le_refl _) _
 have k0:Blk W0 w.heap.size 27 #[v1,.slice a2 S.rs.length c2,v3,v4]:=by rw [hW0];exact Blk.new w _ _
 have HB0:=Lib.hid hb0
 have HK0:=Lib.hid k0
 have hlt0:=k0.lt
 have hsz0:=hb0.size
 have hst:RowKit.Hid (W0.ownsRow W0.heap.size 45 2 (.slice none 0 0) (allFrom 0 (S.rs.take 0)).length (ppCs (allFrom 0 (S.rs.take 0)))):=Lib.hid (World.ownsRow_nil _ _ _ _)
 have hrefl:RowKit.Hid (Below W0.heap.size W0 W0):=Lib.hid (Below.refl _ _)
 clear hsp hr hb0 k0
 go_enter Tryz.func20,Tryz.ntmps20
 go_wp2
 rw [← hW0]
 clear hW0
 go_loopw [3,4] (fun v x wr=>∃ k:Nat,k≤S.rs.length∧x = .int .i64 k∧RowKit.Hid (wr.ownsRow W0.heap.size 45 2 v (allFrom 0 (S.rs.take k)).length (ppCs (allFrom 0 (S.rs.take k))))∧RowKit.Hid (Below W0.heap.size W0 wr)) (fun _ x _=>S.rs.length-(intOf x).toNat)
 case atStart=>exact ⟨0,by omega,rfl,hst,hrefl⟩
 obtain ⟨k,hk,rfl,hrow,hW⟩:=hrel
 have s1:=((HK0.out.below hW.out).cell 1)
 by_cases hlt:k<S.rs.length
 ·have hk2:(k:Int)<(S.rs.length:Int):=by omega
  have hrk:=rk_ok (HR.out S.rs[k] (List.getElem_mem hlt))
  obtain ⟨c1,c2',c3,c4⟩:=hrk
  have HL:=Lib.hid (allFrom_len (l:=S.rs.take k) (fun r h=>HR.out r (List.mem_of_mem_take h)) 0)
  have hst2:RowKit.Hid (wr.ownsRow W0.heap.size 45 2 u3 (allFrom 0 (S.rs.take k)++ofRank k S.rs[k].low 0).length (ppCs (allFrom 0 (S.rs.take k)++ofRank k S.rs[k].low 0))):=by
   rw [ofRank,List.append_nil];exact hrow
  have HTK:=Lib.hid (allFrom_take hlt)
  obtain ⟨m,hm⟩:∃ m:Nat,S.rs[k].cnt=m:=⟨S.rs[k].cnt.toNat,by omega⟩
  have hmt:S.rs[k].cnt.toNat=m:=by omega
  have HMT:=Lib.hid hmt
  have HM:=Lib.hid hm
  have hm97:m≤97:=by omega
  clear hrow hm hmt
  go_wp2
  go_loopw [3,5] (fun v x wi=>∃ j:Nat,j≤m∧x = .int .i64 j∧RowKit.Hid (wi.ownsRow W0.heap.size 45 2 v (allFrom 0 (S.rs.take k)++ofRank k S.rs[k].low j).length (ppCs (allFrom 0 (S.rs.take k)++ofRank k S.rs[k].low j)))∧RowKit.Hid (Below W0.heap.size W0 wi)) (fun _ x _=>m-(intOf x).toNat)
  case atStart=>exact ⟨0,by omega,rfl,hst2,hW⟩
  clear hst2 hW s1
  obtain ⟨j,hj,rfl,hrow,hW⟩:=hrel
  have s1:=((HK0.out.below hW.out).cell 1)
  obtain ⟨b,o,c,ev,hbl,r0,r1,r2,r3,r4,r5⟩:=(HSP.out.later (HB0.out.trans (hW.out.mono HB0.out.size))).rAt k hlt
  cases ev
  rw [HM.out] at r5
  by_cases hjm:j<m
  ·have hj2:(j:Int)<(m:Int):=by omega
   have hlen:(allFrom 0 (S.rs.take k)++ofRank k S.rs[k].low j).length≤97 * 40:=by
    have h1:=HL.out
    rw [List.length_append,ofRank_len]
    rw [List.length_take] at h1
    omega
   have hsz:=hW.out.size
   have e1:IntKind.i64.wrap (S.rs[k].low+(j:Int))=S.rs[k].low+(j:Int):=IntWalk.i64_in _ (by omega)
   go_wp2_with (at_builtin;refine wpList_append_lies _ rfl _ _ 48 rfl W0.heap.size 45 i0 _ 2 16 Tryz.underlying48 hi hz0 hz1 hz2 rfl (by omega) _ _ _ rfl (hrow.out.alloc _) ⟨wr.heap.size,0,none⟩ 1 1 [.int .i64 k,.int .i64 (S.rs[k].low+j)] rfl rfl (World.news_of_block (cs:=#[.int .i64 k,.int .i64 (S.rs[k].low+j)]) (t:=45) (fr:=(0,0)) (heap_alloc_new wr _)) (by simp [Value.oneCell']) (by omega) (by unfold maxLen;omega) (by omega) (by simp;omega) (wr.heap.size+1) (by simp) ?_;intro gg cap w3 hown3 hgrow hat3 hlt3)
   have HP:=Lib.hid (pps_step (l:=allFrom 0 (S.rs.take k)++ofRank k S.rs[k].low j) (p:=((k:Int),S.rs[k].low+j)) hown3 rfl)
   rw [List.append_assoc,show ofRank (k:Int) S.rs[k].low j++[((k:Int),S.rs[k].low+(j:Int))]=ofRank k S.rs[k].low (j+1) from rfl] at HP
   have HB:=Lib.hid (push_low hW.out hrow.out hgrow)
   rw [List.length_append] at HP
   refine ⟨⟨j+1,by omega,by go_num,?_,HB⟩,by simp [intOf];omega⟩
   simpa only [List.length_append] using HP
  ·have hje:j=m:=by omega
   have hj2:¬ ((j:Int)<(m:Int)):=by omega
   have HE:RowKit.Hid (wr.ownsRow W0.heap.size 45 2 u3 (allFrom 0 (S.rs.take (k+1))).length (ppCs (allFrom 0 (S.rs.take (k+1))))):=by
    have:=hrow.out
    rw [hje,← HMT.out,← HTK.out] at this
    exact Lib.hid this
   clear hrow hje
   go_wp2
   go_roundw
   case rel=>exact ⟨k+1,by omega,by go_num,HE,hW⟩
   case measure=>simp [intOf];omega
 ·have hke:k=S.rs.length:=by omega
  have hk2:¬ ((k:Int)<(S.rs.length:Int)):=by omega
  have HE:=hrow.out
  rw [hke,List.take_length] at HE
  have HB:=Lib.hid (HB0.out.trans (hW.out.mono HB0.out.size))
  have HO:=Lib.hid (row_base HE HB0.out.size)
  clear HE hrow hke
  go_wp2
  go_ret
  exact ⟨_,rfl,HO.out,HB.out⟩
theorem filter_take_yes {α:Type} {l:List α} {q:α→Bool} {k:Nat} (h:k<l.length) (hq:q l[k]=true):(l.take (k+1)).filter q=(l.take k).filter q++[l[k]]:=by
 rw [List.take_succ_eq_append_getElem h,List.filter_append]
 simp [hq]
theorem filter_take_no {α:Type} {l:List α} {q:α→Bool} {k:Nat} (h:k<l.length) (hq:q l[k]=false):(l.take (k+1)).filter q=(l.take k).filter q:=by
 rw [List.take_succ_eq_append_getElem h,List.filter_append]
 simp [hq]
structure SpGood (S:Sp):Prop where
 ds:S.ds.length≤6
 rs:S.rs.length≤40
 ss:S.ss.length≤80
 cs:S.cs.length≤24
 d:∀ d∈S.ds,dvE d=0
 r:∀ r∈S.rs,rkE r=0
 s:∀ x∈S.ss,0≤x.div∧x.div<S.ds.length∧0<x.parts.length∧x.parts.length≤12
 p:∀ x∈S.ss,∀ y∈x.parts,ptE S x y=0
theorem spGood {S:Sp} (h:(checkP S).2=0):SpGood S:=by
 obtain ⟨h1,h2,h3,h4,h5,h6,h7,h8,h9⟩:=checkP_zero h
 have hS:∀ j (hj:j<S.ss.length),errS S j=0∧∀ y∈S.ss[j].parts,ptE S S.ss[j] y=0:=by
  intro j hj
  have h:=h8 j hj
  unfold stopE at h
  rw [List.getElem?_eq_getElem hj] at h
  by_cases hz:errS S j=0
  ·refine ⟨hz,?_⟩
   simp only [hz,ne_eq,not_true_eq_false,if_false] at h
   cases hf:fst0 (errP S S.ss[j]) S.ss[j].parts.length with
   | none =>
    intro y hy
    obtain ⟨k,hk,rfl⟩:=List.mem_iff_getElem.1 hy
    have:=fst0_none.1 hf k hk
    unfold errP at this
    rw [List.getElem?_eq_getElem hk] at this
    exact this
   | some k =>
    rw [hf] at h
    exact absurd h (fst0_is hf).2.1
  ·simp only [hz,ne_eq,not_false_eq_true,if_true] at h
 refine ⟨h2,h3,h4,h5,all_dvE h6,all_rkE h7,fun x hx=>?_,fun x hx=>?_⟩
 ·obtain ⟨j,hj,rfl⟩:=List.mem_iff_getElem.1 hx
  have hz:=(hS j hj).1
  unfold errS at hz
  rw [List.getElem?_eq_getElem hj] at hz
  simp only at hz
  split at hz
  ·cases hz
  ·split at hz
   ·have hz:=nmE_zero hz
    unfold stE at hz
    split at hz
    ·split at hz
     ·exact ⟨by omega,by omega,by omega,by omega⟩
     ·cases hz
    ·cases hz
   ·cases hz
 ·obtain ⟨j,hj,rfl⟩:=List.mem_iff_getElem.1 hx
  exact (hS j hj).2
theorem dv_ok {d:Dv} (h:dvE d=0):0≤d.lo∧d.lo≤d.hi∧d.hi≤127∧d.hi-d.lo≤60:=by
 unfold dvE at h
 split at h
 ·omega
 ·cases h
theorem SpGood.part {S:Sp} (g:SpGood S) {x:St} (hx:x∈S.ss) {y:Pt} (hy:y∈x.parts):∃ (k:Nat) (hk:k<S.rs.length),y.rank=k∧-96≤y.shift∧y.shift≤96∧0≤y.lo∧y.lo≤y.hi∧y.hi≤127∧S.rs[k].low≤y.lo+y.shift∧y.hi+y.shift<S.rs[k].low+S.rs[k].cnt:=by
 have h:=g.p x hx y hy
 obtain ⟨d1,d2,_⟩:=g.s x hx
 unfold ptE at h
 split at h
 ·next hr =>
  refine ⟨y.rank.toNat,by omega,by omega,?_⟩
  rw [List.getElem?_eq_getElem (show x.div.toNat<S.ds.length by omega),List.getElem?_eq_getElem (show y.rank.toNat<S.rs.length by omega)] at h
  simp only at h
  have hd:=dv_ok (g.d _ (List.getElem_mem (show x.div.toNat<S.ds.length by omega)))
  split at h
  ·split at h
   ·omega
   ·cases h
  ·cases h
 ·cases h
theorem SpGood.plays {S:Sp} (g:SpGood S) {x:St} (hx:x∈S.ss) {key:Int}:∀ p∈playsL x key,p∈allFrom 0 S.rs:=by
 intro p hp
 unfold playsL at hp
 rw [List.mem_map] at hp
 obtain ⟨y,hy,rfl⟩:=hp
 rw [List.mem_filter] at hy
 obtain ⟨hy,hk⟩:=hy
 simp only [decide_eq_true_eq] at hk
 obtain ⟨k,hk',h1,h2⟩:=g.part hx hy
 rw [mem_allFrom]
 exact ⟨k,hk',by simpa using h1,by simp only;omega,by simp only;omega⟩
theorem run_eqPp (a b c d:Int) (w:World):(binOp .eql 45 (.agg #[.int .i64 a,.int .i64 b]) (.agg #[.int .i64 c,.int .i64 d])).run Tryz.prog w = .ok (.bool (a==c && b==d)) w:=by
 rw [run_eql_struct]
 rw [run_equalIn_agg w 9999 45 _ _ (by kernel_rfl) (by kernel_rfl)]
 simp only [Program.fieldsOf,Tryz.underlying45]
 simp [go_sem,Tryz.underlying3,part]
 by_cases h1:a=c <;> by_cases h2:b=d <;> simp [h1,h2]
theorem run_nePp (a b c d:Int) (w:World):(binOp .neq 45 (.agg #[.int .i64 a,.int .i64 b]) (.agg #[.int .i64 c,.int .i64 d])).run Tryz.prog w = .ok (.bool (!(a==c && b==d))) w:=by
 rw [run_neq_struct]
 rw [run_equalIn_agg w 9999 45 _ _ (by kernel_rfl) (by kernel_rfl)]
 simp only [Program.fieldsOf,Tryz.underlying45]
 simp [go_sem,Tryz.underlying3,part]
 by_cases h1:a=c <;> by_cases h2:b=d <;> simp [h1,h2]
theorem eqPp {p q:Pp} {b:Bool} (h:decide (p=q)=b) (w:World):(binOp .eql 45 (.agg #[.int .i64 p.1,.int .i64 p.2]) (.agg #[.int .i64 q.1,.int .i64 q.2])).run Tryz.prog w = .ok (.bool b) w:=by rw [run_eqPp,pp_eq,h]
theorem nePp {p q:Pp} {b:Bool} (h:decide (p=q)=b) (w:World):(binOp .neq 45 (.agg #[.int .i64 p.1,.int .i64 p.2]) (.agg #[.int .i64 q.1,.int .i64 q.2])).run Tryz.prog w = .ok (.bool (!b)) w:=by rw [run_nePp,pp_eq,h]
end Go.Proofs.YthhfmppealmblaaGreatDoor
