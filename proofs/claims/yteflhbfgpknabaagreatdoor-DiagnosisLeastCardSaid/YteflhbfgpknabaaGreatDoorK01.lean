/-
  A part of the proof: RB,RA,RC,VX,VY.
-/
import Derived.Test.YteflhbfgpknabaaGreatDoorL29
import Derived.Test.YteflhbfgpknabaaGreatDoorL08
import Derived.Test.YteflhbfgpknabaaGreatDoorL27
import Derived.BigQuiet
import Derived.Deep.QuietTactic
import Derived.Test.YteflhbfgpknabaaGreatDoorL12
import Derived.Shelf.SlicesE.IndexFunc
import Derived.Test.YteflhbfgpknabaaGreatDoorL21
set_option maxRecDepth 100000
set_option maxHeartbeats 12800000
namespace Go.Proofs.YteflhbfgpknabaaGreatDoor
open Go.Lib (hid)
def stF (S:Sp) (B:(Th→Int)→Pp→Bool) (T:List Tr) (l:List Ft) (q:Nat) (f:List Ft):List (List Ft):=((subs l q).map (f ++ ·)).filter (okB S B T)
section
variable {S : Sp} {B : (Th → Int) → Pp → Bool} {T : List Tr}
theorem stF_zero {l:List Ft} {f:List Ft}:stF S B T l 0 f=if okB S B T f=true then [f] else []:=by
 unfold stF
 rw [show subs l 0=[[]] by cases l <;> rfl,List.map_singleton,List.append_nil]
 by_cases h:okB S B T f=true
 ·rw [if_pos h,List.filter_cons_of_pos h];rfl
 ·rw [if_neg h,List.filter_cons_of_neg h];rfl
theorem stF_nil {q:Nat} {f:List Ft}:stF S B T [] (q+1) f=[]:=rfl
theorem stF_cons {x:Ft} {l:List Ft} {q:Nat} {f:List Ft}:stF S B T (x :: l) (q+1) f=stF S B T l q (f++[x])++stF S B T l (q+1) f:=by
 unfold stF
 rw [subs,List.map_append,List.filter_append,List.map_map]
 congr 3
 funext g
 simp
theorem stF_at {l:List Ft} {i q:Nat} {f:List Ft} (hi:i<l.length):stF S B T (l.drop i) (q+1) f=stF S B T (l.drop (i+1)) q (f++[l[i]])++stF S B T (l.drop (i+1)) (q+1) f:=by
 rw [List.drop_eq_getElem_cons hi,stF_cons]
theorem stF_end {l:List Ft} {i q:Nat} {f:List Ft} (hi:l.length≤i):stF S B T (l.drop i) (q+1) f=[]:=by
 rw [List.drop_eq_nil_of_le hi,stF_nil]
theorem stF_all {q:Nat}:stF S B T (allFt S) q []=(subs (allFt S) q).filter (okB S B T):=by
 unfold stF
 congr 1
 conv=>rhs;rw [← List.map_id (subs (allFt S) q)]
 exact List.map_congr_left fun g _=>rfl
theorem stF_sets {q:Nat}:SetsP S B T q (stF S B T (allFt S) q []):=by rw [stF_all];exact sets_all S B T q
theorem stF_len {l:List Ft} {q:Nat} {f:List Ft} (hl:l.length≤20) (hq:q≤3):(stF S B T l q f).length≤9261:=by
 have h1:(stF S B T l q f).length≤(subs l q).length:=by
  unfold stF
  exact Nat.le_trans (List.length_filter_le _ _) (by rw [List.length_map];exact Nat.le_refl _)
 have h2:=subs_len l q
 have h3:(l.length+1) ^ q≤21 ^ q:=Nat.pow_le_pow_left (by omega) q
 have h4:21 ^ q≤21 ^ 3:=Nat.pow_le_pow_right (by decide) hq
 omega
theorem okB_is {L:List Tl} {f:List Ft}:okB S B (trs L) f=(!conB f&&decide (failI S B f L<0)):=by
 have h1:=fstI_ge (badB S B f L) L.length
 have h2:(failI S B f L<0)↔Exps S B f (trs L):=by
  rw [← failI_exps]
  unfold failI at h1 ⊢
  omega
 rw [Bool.eq_iff_iff,okB_iff,Bool.and_eq_true,Bool.not_eq_true',conB_iff,decide_eq_true_iff,h2]
end
open Go.RowKit Go.Shelf
def prF (k:Int) (l:List Pp):List Ft:=l.map fun p=>(k,p.1,p.2)
def preP (S:Sp):Nat→List Ft
 | 0=>[]
 | n+1=>preP S n++prF ((n:Int)+1) (allFrom 0 S.rs)
def preN (b:Int) (m:Nat):Nat→List Ft
 | 0=>[]
 | n+1=>preN b m n++numsFt ((n:Int)+b) m
theorem allFt_pre (S:Sp):preP S 2++preN 3 S.ss.length 2++preN 5 S.cs.length 2=allFt S:=by
 simp [allFt,preP,preN,pipesFt,prF]
theorem numsFt_succ (k:Int) (n:Nat):numsFt k (n+1)=numsFt k n++[(k,(n:Int),0)]:=by
 unfold numsFt
 rw [List.range_succ,List.map_append]
 rfl
theorem numsFt_len (k:Int) (n:Nat):(numsFt k n).length=n:=by unfold numsFt;rw [List.length_map,List.length_range]
theorem prF_len (k:Int) (l:List Pp):(prF k l).length=l.length:=List.length_map ..
theorem preP_len (S:Sp):∀ n,(preP S n).length=n * (allFrom 0 S.rs).length
 | 0=>by simp [preP]
 | n+1=>by rw [preP,List.length_append,preP_len S n,prF_len,Nat.add_mul];omega
theorem preN_len (b:Int) (m:Nat):∀ n,(preN b m n).length=n * m
 | 0=>by simp [preN]
 | n+1=>by rw [preN,List.length_append,preN_len b m n,numsFt_len,Nat.add_mul];omega
theorem fts_step {W:World} {base:Nat} {t:TypeId} {v:Value} {l:List Ft} {n:Nat} {p:Ft} (h:W.ownsRow base t 3 v n (ftCs l++[.int .i64 p.1,.int .i64 p.2.1,.int .i64 p.2.2])) (hn:n=l.length+1):W.ownsRow base t 3 v (l++[p]).length (ftCs (l++[p])):=by
 rw [ftCs_snoc,List.length_append,List.length_singleton,← hn]
 exact h
structure AlW (W0:World) (l:List Ft) (v:Value) (W:World):Prop where
 row:W.ownsRow W0.heap.size 74 3 v l.length (ftCs l)
 b:Below W0.heap.size W0 W
theorem AlW.push {W0 W W':World} {l:List Ft} {v v':Value} {p:Ft} {o:Obj} (h:AlW W0 l v W) (ho:W'.ownsRow W0.heap.size 74 3 v' (l.length+1) (ftCs l++[.int .i64 p.1,.int .i64 p.2.1,.int .i64 p.2.2])) (hg:(W.alloc o).grownBy W' v.ownBlock):AlW W0 (l++[p]) v' W' :=
 ⟨fts_step ho rfl,push_low h.b h.row hg⟩
theorem AlW.later {W0 W W':World} {l:List Ft} {v:Value} (h:AlW W0 l v W) (hb:Below W.heap.size W W'):AlW W0 l v W':=⟨row_later h.row hb,below_step h.b hb⟩
theorem AlW.cast {W0 W:World} {l m:List Ft} {v:Value} (h:AlW W0 l v W) (e:l=m):AlW W0 m v W:=e ▸ h
theorem all30_any (v1 v2 v3 v4:Value) (S:Sp) (hc:(checkP S).2=0) (fp:Nat→Value) (w:World) (hsp:SpRd w v1 v2 v3 v4 fp S) :
  Calls Tryz.prog 55 #[.agg #[v1,v2,v3,v4]] w fun e w'=>∃ v,e = .returned v∧w'.ownsRow w.heap.size 74 3 v (allFt S).length (ftCs (allFt S))∧Below w.heap.size w w':=by
 have HSP:=hid hsp
 have HG:=hid (spGood hc)
 have HAL:=hid (show (allFrom 0 S.rs).length≤3880 from by
  have h1:=allFrom_len (spGood hc).r 0
  have h2:=(spGood hc).rs
  omega)
 obtain ⟨_,⟨a2,c2,rfl⟩,⟨a3,c3,rfl⟩,⟨a4,c4,rfl⟩⟩:=hsp.forms
 obtain ⟨i0,hi0,hz0,hz1,hz2⟩:=info_parts ftf_info
 obtain ⟨W0,hW0⟩:∃ W0,W0=w.alloc (.cells #[v1,.slice a2 S.rs.length c2,.slice a3 S.ss.length c3,.slice a4 S.cs.length c4] 27):=⟨_,rfl⟩
 have hb0:Below w.heap.size w W0:=by rw [hW0];exact (Below.refl _ w).alloc (Nat.le_refl _) _
 have k0:Blk W0 w.heap.size 27 #[v1,.slice a2 S.rs.length c2,.slice a3 S.ss.length c3,.slice a4 S.cs.length c4]:=by rw [hW0];exact Blk.new w _ _
 have HB0:=hid hb0
 have HK0:=hid k0
 have hrs:=(spGood hc).rs
 have hss:=(spGood hc).ss
 have hcs:=(spGood hc).cs
 have HS0:=hid (show AlW W0 (preP S 0) (.slice none 0 0) W0 from ⟨World.ownsRow_nil _ _ _ _,Below.refl _ _⟩)
 clear hsp hc hb0 k0
 go_enter Tryz.func55,Tryz.ntmps55
 go_wp2
 rw [← hW0]
 clear hW0
 go_loopw [3,4] (fun v x wr=>∃ n:Nat,n≤2∧x = .int .i64 ((n:Int)+1)∧Hid (AlW W0 (preP S n) v wr)) (fun _ x _=>3-(intOf x).toNat)
 case atStart=>exact ⟨0,by omega,rfl,HS0⟩
 clear HS0
 obtain ⟨n,hn,rfl,hV⟩:=hrel
 by_cases hn2:n<2
 ·have q1:(n:Int)+1≤2:=by omega
  have HV:=hid (show AlW W0 (preP S n++prF ((n:Int)+1) (allFrom 0 (S.rs.take 0))) u3 wr from hV.out.cast (by simp [allFrom,prF]))
  clear hV
  go_wp2
  go_loopw [3,5] (fun v x wi=>∃ k:Nat,k≤S.rs.length∧x = .int .i64 k∧Hid (AlW W0 (preP S n++prF ((n:Int)+1) (allFrom 0 (S.rs.take k))) v wi)) (fun _ x _=>S.rs.length-(intOf x).toNat)
  case atStart=>exact ⟨0,by omega,rfl,HV⟩
  clear HV
  obtain ⟨k,hk,rfl,hV⟩:=hrel
  have s1:=((HK0.out.below hV.out.b).cell 1)
  by_cases hlt:k<S.rs.length
  ·have hk2:(k:Int)<(S.rs.length:Int):=by omega
   obtain ⟨c1,c2',c3',c4'⟩:=rk_ok (HG.out.r S.rs[k] (List.getElem_mem hlt))
   have HL:=hid (allFrom_len (l:=S.rs.take k) (fun r h=>HG.out.r r (List.mem_of_mem_take h)) 0)
   have HTK:=hid (allFrom_take hlt)
   obtain ⟨m,hm⟩:∃ m:Nat,S.rs[k].cnt=m:=⟨S.rs[k].cnt.toNat,by omega⟩
   have HMT:=hid (show S.rs[k].cnt.toNat=m by omega)
   have HM:=hid hm
   have hm97:m≤97:=by omega
   have HR5:=hid (show ∀ W,Below w.heap.size w W→_ from fun W hb=>(HSP.out.later hb).rAt k hlt)
   obtain ⟨lo,hlo⟩:∃ lo,S.rs[k].low=lo:=⟨_,rfl⟩
   rw [hlo] at HTK c3' c4'
   have HLO:=hid hlo
   have HV:=hid (show AlW W0 (preP S n++prF ((n:Int)+1) (allFrom 0 (S.rs.take k)++ofRank k lo 0)) u3 wr from hV.out.cast (by simp [ofRank]))
   obtain ⟨b,o,c,ev,hbl,r0,r1,r2,r3,r4,r5⟩:=HR5.out wr (below_step HB0.out hV.out.b)
   cases ev
   rw [hlo] at r4
   rw [hm] at r5
   clear hV hm hlo
   go_wp2
   clear r0 r1 r2 r3 r4 r5 s1
   go_loopw [3,6] (fun v x wi=>∃ j:Nat,j≤m∧x = .int .i64 (lo+(j:Int))∧Hid (AlW W0 (preP S n++prF ((n:Int)+1) (allFrom 0 (S.rs.take k)++ofRank k lo j)) v wi)) (fun _ x _=>m-(intOf x-lo).toNat)
   case atStart=>exact ⟨0,by omega,by simp,HV⟩
   clear HV
   obtain ⟨j,hj,rfl,hV⟩:=hrel
   have s1:=((HK0.out.below hV.out.b).cell 1)
   obtain ⟨b,o,c,ev,hbl,r0,r1,r2,r3,r4,r5⟩:=HR5.out wr (below_step HB0.out hV.out.b)
   cases ev
   rw [HLO.out] at r4
   rw [HM.out] at r5
   have e1:IntKind.i64.wrap (lo+(m:Int))=lo+(m:Int):=IntWalk.i64_in _ (by omega)
   by_cases hjm:j<m
   ·have hj2:lo+(j:Int)<lo+(m:Int):=by omega
    have hlen:(preP S n++prF ((n:Int)+1) (allFrom 0 (S.rs.take k)++ofRank k lo j)).length≤100000:=by
     have h1:=HL.out
     have h2:=HAL.out
     have h3:=HG.out.rs
     rw [List.length_take] at h1
     rw [List.length_append,prF_len,List.length_append,ofRank_len,preP_len]
     have:n * (allFrom 0 S.rs).length≤2 * 3880:=Nat.mul_le_mul hn h2
     omega
    go_upto_region 9 with fail
    go_quiet (fail)
    have HV:=hid (hV.out.later (below_drewN (Below.refl _ wr) nq))
    clear hV r0 r1 r2 r3 r4 r5 s1
    obtain ⟨W1,hW1⟩:∃ W1,wr.drewN nq=W1:=⟨_,rfl⟩
    rw [hW1] at HV ⊢
    clear hW1
    have hsz:=HV.out.b.size
    obtain ⟨l,hle⟩:∃ l,preP S n++prF ((n:Int)+1) (allFrom 0 (S.rs.take k)++ofRank k lo j)=l:=⟨_,rfl⟩
    rw [hle] at HV hlen
    have HLE:=hid hle
    clear hle
    go_wp2_with (at_builtin;refine wpList_append_lies _ rfl _ _ 28 rfl W0.heap.size 74 i0 _ 3 24 Tryz.underlying28 hi0 hz0 hz1 hz2 rfl (by omega) _ _ _ rfl (HV.out.row.alloc _) ⟨W1.heap.size,0,none⟩ 1 1 [.int .i64 ((n:Int)+1),.int .i64 k,.int .i64 (lo+(j:Int))] rfl rfl (World.news_of_block (cs:=#[.int .i64 ((n:Int)+1),.int .i64 k,.int .i64 (lo+(j:Int))]) (t:=74) (fr:=(0,0)) (heap_alloc_new W1 _)) (by simp [Value.oneCell']) (by omega) (by unfold maxLen;omega) (by omega) (by simp;omega) (W1.heap.size+1) (by simp) ?_;intro gg cap w3 hown3 hgrow hat3 hlt3)
    have HP:=hid ((HV.out.push (p:=((n:Int)+1,(k:Int),lo+(j:Int))) hown3 hgrow).cast (m:=preP S n++prF ((n:Int)+1) (allFrom 0 (S.rs.take k)++ofRank k lo (j+1))) (by rw [← HLE.out];simp [prF,ofRank]))
    refine ⟨⟨j+1,by omega,by congr 1;push_cast;omega,HP⟩,by simp [intOf];omega⟩
   ·have hje:j=m:=by omega
    have hj2:¬ (lo+(j:Int)<lo+(m:Int)):=by omega
    go_upto_region 9 with fail
    go_quiet (fail)
    have HV:=hid ((hV.out.later (below_drewN (Below.refl _ wr) nq)).cast (m:=preP S n++prF ((n:Int)+1) (allFrom 0 (S.rs.take (k+1)))) (by rw [HTK.out,hje,HMT.out]))
    clear hV r0 r1 r2 r3 r4 r5 s1 hje
    go_wp2
    go_roundw
    case rel=>exact ⟨k+1,by omega,by go_num,HV⟩
    case measure=>simp [intOf];omega
  ·have hke:k=S.rs.length:=by omega
   have hk2:¬ ((k:Int)<(S.rs.length:Int)):=by omega
   have HV:=hid (hV.out.cast (m:=preP S (n+1)) (by rw [hke,List.take_length];rfl))
   clear hke hV
   go_wp2
   go_roundw
   case rel=>exact ⟨n+1,by omega,by go_num,HV⟩
   case measure=>simp [intOf];omega
 ·have hn3:n=2:=by omega
  have q1:¬ ((n:Int)+1≤2):=by omega
  have HV:=hid (show AlW W0 (preP S 2++preN 3 S.ss.length 0) u3 wr from hV.out.cast (by rw [hn3];simp [preN]))
  clear hV hn3
  go_wp2
  go_loopw [3,7] (fun v x wr=>∃ n:Nat,n≤2∧x = .int .i64 ((n:Int)+3)∧Hid (AlW W0 (preP S 2++preN 3 S.ss.length n) v wr)) (fun _ x _=>5-(intOf x).toNat)
  case atStart=>exact ⟨0,by omega,rfl,HV⟩
  clear HV
  obtain ⟨n,hn,rfl,hV⟩:=hrel
  by_cases hn2:n<2
  ·have q1:(n:Int)+3≤4:=by omega
   have HV:=hid (show AlW W0 (preP S 2++preN 3 S.ss.length n++numsFt ((n:Int)+3) 0) u3 wr from hV.out.cast (by simp [numsFt]))
   clear hV
   go_wp2
   go_loopw [3,8] (fun v x wi=>∃ i:Nat,i≤S.ss.length∧x = .int .i64 i∧Hid (AlW W0 (preP S 2++preN 3 S.ss.length n++numsFt ((n:Int)+3) i) v wi)) (fun _ x _=>S.ss.length-(intOf x).toNat)
   case atStart=>exact ⟨0,by omega,rfl,HV⟩
   clear HV
   obtain ⟨i,hi,rfl,hV⟩:=hrel
   have s1:=((HK0.out.below hV.out.b).cell 2)
   by_cases hlt:i<S.ss.length
   ·have hk2:(i:Int)<(S.ss.length:Int):=by omega
    have hlen:(preP S 2++preN 3 S.ss.length n++numsFt ((n:Int)+3) i).length≤100000:=by
     have h2:=HAL.out
     simp only [List.length_append,preN_len,numsFt_len,preP_len]
     have:n * S.ss.length≤2 * 80:=Nat.mul_le_mul hn (by omega)
     omega
    have hsz:=hV.out.b.size
    obtain ⟨l,hle⟩:∃ l,preP S 2++preN 3 S.ss.length n++numsFt ((n:Int)+3) i=l:=⟨_,rfl⟩
    rw [hle] at hV hlen
    have HLE:=hid hle
    clear hle
    go_wp2_with (at_builtin;refine wpList_append_lies _ rfl _ _ 28 rfl W0.heap.size 74 i0 _ 3 24 Tryz.underlying28 hi0 hz0 hz1 hz2 rfl (by omega) _ _ _ rfl (hV.out.row.alloc _) ⟨wr.heap.size,0,none⟩ 1 1 [.int .i64 ((n:Int)+3),.int .i64 i,.int .i64 0] rfl rfl (World.news_of_block (cs:=#[.int .i64 ((n:Int)+3),.int .i64 i,.int .i64 0]) (t:=74) (fr:=(0,0)) (heap_alloc_new wr _)) (by simp [Value.oneCell']) (by omega) (by unfold maxLen;omega) (by omega) (by simp;omega) (wr.heap.size+1) (by simp) ?_;intro gg cap w3 hown3 hgrow hat3 hlt3)
    have HP:=hid ((hV.out.push (p:=((n:Int)+3,(i:Int),0)) hown3 hgrow).cast (m:=preP S 2++preN 3 S.ss.length n++numsFt ((n:Int)+3) (i+1)) (by rw [← HLE.out,numsFt_succ];simp))
    refine ⟨⟨i+1,by omega,by go_num,HP⟩,by simp [intOf];omega⟩
   ·have hke:i=S.ss.length:=by omega
    have hk2:¬ ((i:Int)<(S.ss.length:Int)):=by omega
    have HV:=hid (hV.out.cast (m:=preP S 2++preN 3 S.ss.length (n+1)) (by rw [hke,show ∀ b m,preN b m (n+1)=preN b m n++numsFt ((n:Int)+b) m from fun _ _=>rfl];simp only [List.append_assoc]))
    clear hke hV
    go_wp2
    go_roundw
    case rel=>exact ⟨n+1,by omega,by go_num,HV⟩
    case measure=>simp [intOf];omega
  ·have hn3:n=2:=by omega
   have q1:¬ ((n:Int)+3≤4):=by omega
   have HV:=hid (show AlW W0 (preP S 2++preN 3 S.ss.length 2++preN 5 S.cs.length 0) u3 wr from hV.out.cast (by rw [hn3];simp [preN]))
   clear hV hn3
   go_wp2
   go_loopw [3,9] (fun v x wr=>∃ n:Nat,n≤2∧x = .int .i64 ((n:Int)+5)∧Hid (AlW W0 (preP S 2++preN 3 S.ss.length 2++preN 5 S.cs.length n) v wr)) (fun _ x _=>7-(intOf x).toNat)
   case atStart=>exact ⟨0,by omega,rfl,HV⟩
   clear HV
   obtain ⟨n,hn,rfl,hV⟩:=hrel
   by_cases hn2:n<2
   ·have q1:(n:Int)+5≤6:=by omega
    have HV:=hid (show AlW W0 (preP S 2++preN 3 S.ss.length 2++preN 5 S.cs.length n++numsFt ((n:Int)+5) 0) u3 wr from hV.out.cast (by simp [numsFt]))
    clear hV
    go_wp2
    go_loopw [3,10] (fun v x wi=>∃ i:Nat,i≤S.cs.length∧x = .int .i64 i∧Hid (AlW W0 (preP S 2++preN 3 S.ss.length 2++preN 5 S.cs.length n++numsFt ((n:Int)+5) i) v wi)) (fun _ x _=>S.cs.length-(intOf x).toNat)
    case atStart=>exact ⟨0,by omega,rfl,HV⟩
    clear HV
    obtain ⟨i,hi,rfl,hV⟩:=hrel
    have s1:=((HK0.out.below hV.out.b).cell 3)
    by_cases hlt:i<S.cs.length
    ·have hk2:(i:Int)<(S.cs.length:Int):=by omega
     have hlen:(preP S 2++preN 3 S.ss.length 2++preN 5 S.cs.length n++numsFt ((n:Int)+5) i).length≤100000:=by
      have h2:=HAL.out
      simp only [List.length_append,preN_len,numsFt_len,preP_len]
      have:n * S.cs.length≤2 * 80:=Nat.mul_le_mul hn (by omega)
      omega
     have hsz:=hV.out.b.size
     obtain ⟨l,hle⟩:∃ l,preP S 2++preN 3 S.ss.length 2++preN 5 S.cs.length n++numsFt ((n:Int)+5) i=l:=⟨_,rfl⟩
     rw [hle] at hV hlen
     have HLE:=hid hle
     clear hle
     go_wp2_with (at_builtin;refine wpList_append_lies _ rfl _ _ 28 rfl W0.heap.size 74 i0 _ 3 24 Tryz.underlying28 hi0 hz0 hz1 hz2 rfl (by omega) _ _ _ rfl (hV.out.row.alloc _) ⟨wr.heap.size,0,none⟩ 1 1 [.int .i64 ((n:Int)+5),.int .i64 i,.int .i64 0] rfl rfl (World.news_of_block (cs:=#[.int .i64 ((n:Int)+5),.int .i64 i,.int .i64 0]) (t:=74) (fr:=(0,0)) (heap_alloc_new wr _)) (by simp [Value.oneCell']) (by omega) (by unfold maxLen;omega) (by omega) (by simp;omega) (wr.heap.size+1) (by simp) ?_;intro gg cap w3 hown3 hgrow hat3 hlt3)
     have HP:=hid ((hV.out.push (p:=((n:Int)+5,(i:Int),0)) hown3 hgrow).cast (m:=preP S 2++preN 3 S.ss.length 2++preN 5 S.cs.length n++numsFt ((n:Int)+5) (i+1)) (by rw [← HLE.out,numsFt_succ];simp))
     refine ⟨⟨i+1,by omega,by go_num,HP⟩,by simp [intOf];omega⟩
    ·have hke:i=S.cs.length:=by omega
     have hk2:¬ ((i:Int)<(S.cs.length:Int)):=by omega
     have HV:=hid (hV.out.cast (m:=preP S 2++preN 3 S.ss.length 2++preN 5 S.cs.length (n+1)) (by rw [hke,show ∀ b m,preN b m (n+1)=preN b m n++numsFt ((n:Int)+b) m from fun _ _=>rfl];simp only [List.append_assoc]))
     clear hke hV
     go_wp2
     go_roundw
     case rel=>exact ⟨n+1,by omega,by go_num,HV⟩
     case measure=>simp [intOf];omega
   ·have hn3:n=2:=by omega
    have q1:¬ ((n:Int)+5≤6):=by omega
    have HB:=hid (below_step HB0.out hV.out.b)
    have HO:=hid (row_base (hV.out.cast (m:=allFt S) (by rw [hn3,allFt_pre])).row HB0.out.size)
    clear hV hn3
    go_wp2
    go_ret
    exact ⟨_,rfl,HO.out,HB.out⟩
theorem append_fts (W:World) (base:Nat) (V:Value) (xs:List Ft) (hown:W.ownsRow base 74 3 V xs.length (ftCs xs)) (v:Value) (l:List Ft) (hv:ARd W v 3 (l.map ftC)) (hl:xs.length+l.length≤1000000000) (hb:base≤W.heap.size) :
  ∃ V' w',(Builtin.append_ #[28,28] 28 #[V,v]).run Tryz.prog W = .ok V' w'∧w'.ownsRow base 74 3 V' (xs++l).length (ftCs (xs++l))∧W.grownBy w' V.ownBlock:=by
 obtain ⟨i0,hi,hz0,hz1,hz2⟩:=info_parts ftf_info
 obtain ⟨V',w',h1,h2,h3⟩:=append_src W base 28 74 i0 _ 3 24 Tryz.underlying28 hi hz0 hz1 hz2 rfl (by omega) (by omega) V xs.length _ hown v (l.map ftC) (by intro r hr;obtain ⟨p,_,rfl⟩:=List.mem_map.1 hr;rfl) (by intro u hu;obtain ⟨r,hr,hu⟩:=List.mem_flatten.1 hu;obtain ⟨p,_,rfl⟩:=List.mem_map.1 hr;simp only [ftC,List.mem_cons,List.not_mem_nil,or_false] at hu;rcases hu with rfl | rfl | rfl <;> rfl) hv (by simpa using hl) hb
 refine ⟨V',w',h1,?_,h3⟩
 rw [List.length_map] at h2
 rw [List.length_append]
 unfold ftCs at h2 ⊢
 rw [List.map_append,List.flatten_append]
 exact h2
theorem flat_one {α β:Type} (f:α→β):∀ l:List α,(l.map fun i=>[f i]).flatten=l.map f
 | []=>rfl
 | a :: l=>by rw [List.map_cons,List.flatten_cons,flat_one f l];rfl
theorem slice_one {W:World} {base n:Nat} {t:TypeId} {k:Nat} {v:Value} {xs:List Value} (h:W.ownsRow base t k v n xs):v.oneCell'=true:=by
 obtain ⟨a,c,rfl⟩:=own_form h
 rfl
theorem append_sto {W:World} {base base':Nat} {V v:Value} {M N:List (List Ft)} {g h:Nat→Value} (hM:StO base W V M g) (hN:StO base' W v N h) (hb':base≤base') (hl:M.length+N.length≤1000000000) (hb:base≤W.heap.size) :
  ∃ V' w',(Builtin.append_ #[43,43] 43 #[V,v]).run Tryz.prog W = .ok V' w'∧StO base w' V' (M++N) (fun i=>if i<M.length then g i else h (i-M.length))∧W.grownBy w' V.ownBlock:=by
 obtain ⟨i0,hi,hz0,hz1,hz2⟩:=info_parts fts_info
 obtain ⟨V',w',h1,h2,h3⟩:=append_src W base 43 28 i0 _ 1 24 Tryz.underlying43 hi hz0 hz1 hz2 rfl (by omega) (by omega) V M.length _ hM.row v ((List.range N.length).map fun i=>[h i]) (by intro r hr;obtain ⟨p,_,rfl⟩:=List.mem_map.1 hr;rfl) (by
  intro u hu
  rw [flat_one] at hu
  obtain ⟨i,hi,rfl⟩:=List.mem_map.1 hu
  exact slice_one (hN.st i (List.mem_range.1 hi))) hN.rd.rd (by simpa using hl) hb
 refine ⟨V',w',h1,⟨?_,fun i hi=>?_⟩,h3⟩
 ·rw [List.length_map,List.length_range,flat_one] at h2
  have e:(List.range (M++N).length).map (fun i=>if i<M.length then g i else h (i-M.length))=(List.range M.length).map g++(List.range N.length).map h:=by
   rw [List.length_append,List.range_add,List.map_append,List.map_map]
   refine congr (congrArg HAppend.hAppend (List.map_congr_left fun i hi=>if_pos (List.mem_range.1 hi))) (List.map_congr_left fun i _=>?_)
   have h0:¬ M.length+i<M.length:=by omega
   simp only [Function.comp]
   rw [if_neg h0,Nat.add_sub_cancel_left]
  rw [e,List.length_append]
  exact h2
 ·rw [List.length_append] at hi
  by_cases hlt:i<M.length
  ·simp only [if_pos hlt]
   rw [List.getElem_append_left hlt]
   exact (hM.st i hlt).kept h3 (row_apart (hM.st i hlt) hM.row (by decide))
  ·simp only [if_neg hlt]
   rw [List.getElem_append_right (by omega)]
   exact (row_base (hN.st (i-M.length) (by omega)) hb').kept h3 (row_apart (hN.st (i-M.length) (by omega)) hM.row (by decide))
theorem sto_one {W:World} {base:Nat} {v:Value} {f:List Ft} (h:W.ownsRow base 74 3 v f.length (ftCs f)) (hb:base≤W.heap.size):StO base (W.alloc (.cells #[v] 28)) (.slice (some ⟨W.heap.size,0,none⟩) 1 1) [f] (fun _=>v):=by
 refine ⟨⟨rfl,.inr ⟨W.heap.size,1,#[v],rfl,hb,Blk.new _ _ _,Nat.le_refl 1,by unfold maxLen;omega,rfl,rfl⟩⟩,fun i hi=>?_⟩
 have e:i=0:=by have:i<1:=hi;omega
 subst e
 exact row_later h ((Below.refl _ W).alloc (Nat.le_refl _) _)
theorem fts_none (W:World) (base:Nat) (hb:base≤W.heap.size):(W.alloc (.cells #[] 74)).ownsRow base 74 3 (.slice (some ⟨W.heap.size,0,none⟩) 0 0) ([]:List Ft).length (ftCs []) :=
 ⟨rfl,.inr ⟨W.heap.size,0,#[],rfl,hb,Blk.new _ _ _,by decide,by unfold maxLen;omega,rfl,rfl⟩⟩
theorem drewN_add (w:World) (a b:Nat):(w.drewN a).drewN b=w.drewN (a+b):=by
 induction b with
 | zero=>rfl
 | succ b ih=>simp only [World.drewN,Nat.add_assoc] at *
theorem ppFormX {w:World} {v:Value} {l:List Pp} (h:ARd w v 2 (l.map ppC)):∃ a c,v = .slice a l.length c:=by
 obtain ⟨a,c,e⟩:=h.form
 exact ⟨a,c,by simpa using e⟩
theorem eqP_any (a b:List Pp) (va vb:Value) (w:World) (ha:ARd w va 2 (a.map ppC)) (hb:ARd w vb 2 (b.map ppC)) (hl:a.length≤1000000) (sb:Bool) (hsb:a=b↔sb=true) :
  Calls Tryz.prog 101 #[va,vb] w fun e w'=>e = .returned (.bool sb)∧∃ q,w'=w.drewN q:=by
 obtain ⟨aa,ca,eva⟩:=ppFormX ha
 obtain ⟨ab,cb,evb⟩:=ppFormX hb
 subst eva evb
 have HA:=hid ha
 have HB:=hid hb
 have HSB:=hid hsb
 clear ha hb hsb
 go_enter Tryz.func101,Tryz.ntmps101
 by_cases hln:a.length=b.length
 case neg =>
  have q1:((a.length:Int)==(b.length:Int))=false:=by rw [beq_eq_false_iff_ne];omega
  have q2:(a.length==b.length)=false:=by rw [beq_eq_false_iff_ne];exact hln
  have HE:Hid (sb=false):=hid (by
   cases sb with
   | false=>rfl
   | true=>exact absurd (congrArg List.length (HSB.out.2 rfl)) hln)
  clear hln
  go_wp2
  go_ret
  exact ⟨by rw [HE.out];rfl,0,rfl⟩
 have q1:((a.length:Int)==(b.length:Int))=true:=by rw [beq_iff_eq];omega
 have HLN:=hid hln
 have HV0:Hid (∀ j (h1:j<a.length) (h2:j<b.length),j<0→a[j]=b[j]):=hid (fun j _ _ h=>absurd h (Nat.not_lt_zero _))
 obtain ⟨bl,hbl⟩:∃ n,b.length=n:=⟨_,rfl⟩
 rw [hbl] at q1 ⊢
 have q2:(a.length==bl)=true:=by rw [beq_iff_eq];omega
 have HBL:=hid hbl
 have HW0:=hid (show ∃ q,w=w.drewN q from ⟨0,rfl⟩)
 clear hln hbl
 go_wp2
 clear q1 q2
 go_loopw [13] (fun x wr=>∃ i:Nat,i≤a.length∧x = .int .i64 i∧Hid (∀ j (h1:j<a.length) (h2:j<b.length),j<i→a[j]=b[j])∧Hid (∃ q,wr=w.drewN q)) (fun x _=>a.length-(intOf x).toNat)
 case atStart=>exact ⟨0,Nat.zero_le _,rfl,HV0,HW0⟩
 clear HV0 HW0
 obtain ⟨i,hi,rfl,hV,hW⟩:=hrel
 have hbw:Below w.heap.size w wr:=by
  obtain ⟨q,rfl⟩:=hW.out
  exact below_drewN (Below.refl _ _) q
 by_cases hil:i<a.length
 ·have hi2:(i:Int)<(a.length:Int):=by omega
  have hib:i<b.length:=by rw [← HLN.out];exact hil
  have hi3:(i:Int)<(bl:Int):=by have:=HBL.out;omega
  obtain ⟨b1,o1,c1,ev,hbl,k0,k1⟩:=(HA.out.later hbw).ppAt i hil
  cases ev
  obtain ⟨b2,o2,c2,ev,hbl2,m0,m1⟩:=(HB.out.later hbw).ppAt i hib
  rw [HBL.out] at ev
  cases ev
  have HX:=hid (show a[i]=b[i]→∀ j (h1:j<a.length) (h2:j<b.length),j<i+1→a[j]=b[j] from fun h j h1 h2 hj=>by
   rcases Nat.lt_or_ge j i with q | q
   ·exact hV.out j h1 h2 q
   ·have:j=i:=by omega
    subst this
    exact h)
  have HY:=hid (show a[i]≠b[i]→sb=false from fun h=>by
   cases sb with
   | false=>rfl
   | true=>exact absurd (by have:=HSB.out.2 rfl;subst this;rfl) h)
  obtain ⟨⟨x0,x1⟩,hx⟩:∃ x,a[i]=x:=⟨_,rfl⟩
  obtain ⟨⟨y0,y1⟩,hy⟩:∃ y,b[i]=y:=⟨_,rfl⟩
  rw [hx] at k0 k1 HX HY
  rw [hy] at m0 m1 HX HY
  dsimp only at k0 k1 m0 m1
  clear hx hy hV hbl hbl2 hib hbw
  obtain ⟨bb,hbb⟩:∃ bb,decide (((x0,x1):Pp)=(y0,y1))=bb:=⟨_,rfl⟩
  have hne:=fun W=>nePp hbb W
  dsimp only at hne
  cases bb with
  | true =>
   have HN:=hid (HX.out (of_decide_eq_true hbb))
   clear hbb HX HY
   go_upto_region 6 with fail
   go_quiet (fail)
   have HW9:=hid (show ∃ q,wr.drewN nq=w.drewN q from by obtain ⟨q,rfl⟩:=hW.out;exact ⟨_,drewN_add w q nq⟩)
   go_wp2
   go_roundw
   case rel=>exact ⟨i+1,by omega,by go_num,HN,HW9⟩
   case measure=>simp [intOf];omega
  | false =>
   have HN:=hid (HY.out (of_decide_eq_false hbb))
   clear hbb HX HY
   go_upto_region 6 with fail
   go_quiet (fail)
   have HW9:=hid (show ∃ q,wr.drewN nq=w.drewN q from by obtain ⟨q,rfl⟩:=hW.out;exact ⟨_,drewN_add w q nq⟩)
   go_wp2
   go_ret
   exact ⟨by rw [HN.out];rfl,HW9.out⟩
 ·have hi2:¬ (i:Int)<(a.length:Int):=by omega
  have HN:=hid (HSB.out.1 (List.ext_getElem HLN.out (fun j h1 h2=>hV.out j h1 h2 (by omega))))
  clear hV hbw
  go_wp2
  go_ret
  exact ⟨by rw [HN.out];rfl,hW.out⟩
theorem isClass_any (m c:List Pp) (XB:Nat) (xv cv:Value) (w:World) (hxb:Blk w XB 50 #[xv]) (hm:ARd w xv 2 (m.map ppC)) (hc:ARd w cv 2 (c.map ppC)) (hl:m.length≤1000000) (sb:Bool) (hsb:m=c↔sb=true) :
  Calls Tryz.prog 100 #[cv,.pointer (some ⟨XB,0,none⟩)] w fun e w'=>e = .returned (.bool sb)∧∃ q,w'=w.drewN q:=by
 have HE:=hid (eqP_any m c xv cv w hm hc hl sb hsb)
 obtain ⟨xa,xn,rfl⟩:=ppFormX hm
 obtain ⟨ca,cn,rfl⟩:=ppFormX hc
 have x0:w.cell? ⟨XB,0,none⟩=some (.slice xa m.length xn):=hxb.cell 0
 clear hxb hm hc hsb
 go_enter Tryz.func100,Tryz.ntmps100
 go_wp2_with fail
 refine HE.out.mono ?_
 rintro e w' ⟨rfl,hq⟩
 have HQ:=hid hq
 clear hq HE x0
 go_wp2
 go_ret
 exact ⟨rfl,HQ.out⟩
theorem ixHeard_any (m:List Pp) (C:List (List Pp)) (hl:m.length≤1000000) (hC:C.length≤1000000) (XB:Nat) (xv hv:Value) (gh:Nat→Value) (base X:Nat) (w:World) (hxb:Blk w XB 50 #[xv]) (hm:ARd w xv 2 (m.map ppC)) (hr:w.ownsRow base 50 1 hv C.length ((List.range C.length).map gh)) (hcs:∀ i (hi:i<C.length),w.ownsRow X 78 2 (gh i) C[i].length (ppCs C[i])) :
  Calls Tryz.prog 99 #[hv,.func (.func 100) #[] #[.pointer (some ⟨XB,0,none⟩)]] w fun e w'=>∃ n:Int,e = .returned (.int .i64 n)∧((n = -1∧m ∉ C)∨∃ i:Nat,∃ hi:i<C.length,n=i∧C[i]=m)∧Below w.heap.size w w':=by
 rcases hr.2 with ⟨hv',h0⟩ | ⟨b,cap,cur,hv',hbg,hg,hcap,hmx,hsz,hxs⟩
 ·have hl0:C=[]:=List.length_eq_zero_iff.1 h0
  subst hl0
  subst hv'
  refine (AnyE.slices_IndexFunc_empty Tryz.ixHeard none 0 _ w).mono ?_
  rintro e w' ⟨rfl,rfl⟩
  exact ⟨-1,rfl,.inl ⟨rfl,List.not_mem_nil⟩,Below.refl _ _⟩
 ·subst hv'
  by_cases hpos:C.length=0
  ·have hl0:C=[]:=List.length_eq_zero_iff.1 hpos
   subst hl0
   refine (AnyE.slices_IndexFunc_empty Tryz.ixHeard (some ⟨b,0,none⟩) cap _ w).mono ?_
   rintro e w' ⟨rfl,rfl⟩
   exact ⟨-1,rfl,.inl ⟨rfl,List.not_mem_nil⟩,Below.refl _ _⟩
  ·haveI:Inhabited (Fin C.length):=⟨⟨0,by omega⟩⟩
   have eg:∀ args w,(callFunc 100 args).run Tryz.prog w = .ok (.enter 100 args) w:=enters_of Tryz.func100 (by kernel_rfl) rfl
   have hfl:(List.finRange C.length).length=C.length:=List.length_finRange
   have hget:∀ j (hj:j<C.length),(List.finRange C.length)[j]! = ⟨j,hj⟩:=fun j hj=>by
    rw [getElem!_pos _ j (by rw [hfl];exact hj)]
    simp
   have hcells:∀ j,j<C.length→w.cell? ⟨b,0+j,none⟩=some (gh j):=fun j hj=>by
    have h1:=congrArg (fun l=>l[j]?) hxs
    simp only [List.getElem?_take,Array.getElem?_toList,Nat.mul_one] at h1
    rw [if_pos (by omega)] at h1
    rw [Nat.zero_add,Blk.cell hg j,h1,List.getElem?_map,List.getElem?_range hj]
    rfl
   have hcon:=AnyE.slices_IndexFunc Tryz.ixHeard (fun i:Fin C.length=>gh i.1) (fun i=>decide (m=C[i])) 100 #[.pointer (some ⟨XB,0,none⟩)] eg b 0 C.length cap (List.finRange C.length) w (fun W i hb=>isClass_any m C[i] XB xv (gh i.1) W (hxb.below hb) (hm.later hb) (ARd.of_pps (row_later (hcs i.1 i.2) hb)) hl _ (by rw [decide_eq_true_iff])) (by rw [hfl];exact Nat.le_refl _) (by omega) (fun j hj=>by rw [hfl] at hj;rw [hget j hj];exact hcells j hj)
   change Calls Tryz.prog 99 _ _ _ at hcon
   refine hcon.mono ?_
   rintro e w' ⟨rfl,q,rfl⟩
   refine ⟨_,rfl,?_,below_drewN (Below.refl _ _) q⟩
   by_cases hin:m∈C
   ·right
    obtain ⟨i,hi,hmin,hlt⟩:∃ i,∃ hi:i<C.length,C[i]=m∧∀ j (hj:j<C.length),j<i→C[j]≠m:=by
     obtain ⟨i,hi,e⟩:=List.getElem_of_mem hin
     induction i using Nat.strongRecOn with
     | _ i ih =>
      by_cases h:∃ j,∃ hj:j<C.length,j<i∧C[j]=m
      ·obtain ⟨j,hj,hji,e2⟩:=h
       exact ih j hji hj e2
      ·exact ⟨i,hi,e,fun j hj hji e2=>h ⟨j,hj,hji,e2⟩⟩
    refine ⟨i,hi,?_,hmin⟩
    exact Lib.idxBy_hit (fun _ (y:Fin C.length)=>decide (m=C[y])) (List.finRange C.length) C.length i default hi (by rw [hfl];exact Nat.le_refl _) (by rw [hget i hi];exact decide_eq_true hmin.symm) (fun j hj=>by rw [hget j (by omega)];exact decide_eq_false fun e=>hlt j (by omega) hj e.symm)
   ·left
    refine ⟨Lib.idxBy_miss (fun _ (y:Fin C.length)=>decide (m=C[y])) (List.finRange C.length) C.length default (fun j hj=>?_),hin⟩
    rw [hget j hj]
    exact decide_eq_false fun e=>hin (by rw [e];exact List.getElem_mem hj)
theorem sub_len {α:Type} [DecidableEq α] {l m:List α} (h:l.Nodup) (hs:∀ x∈l,x∈m):l.length≤m.length:=by
 induction l generalizing m with
 | nil=>exact Nat.zero_le _
 | cons a l ih =>
  rw [List.nodup_cons] at h
  have ha:=hs a (by simp)
  have h2:=ih h.2 (m:=m.erase a) (fun x hx=>(List.mem_erase_of_ne (fun e=>h.1 (by rw [← e];exact hx))).2 (hs x (by simp [hx])))
  rw [List.length_erase_of_mem ha] at h2
  have:0<m.length:=List.length_pos_of_mem ha
  rw [List.length_cons]
  omega
theorem LfI.le {h:List Ft→List Pp} {M:List (List Ft)} {k:Nat} {C:List (List Pp)} {N:List Int} (i:LfI h M k C N):C.length≤M.length:=by
 have h1:=sub_len i.nd (m:=(M.take k).map h) fun c hc=>by
  obtain ⟨F,hF,e⟩:=(i.mem c).1 hc
  exact List.mem_map.2 ⟨F,hF,e⟩
 rw [List.length_map,List.length_take] at h1
 omega
theorem foldl_maxI_le:∀ {l:List Int} {a:Int},a≤l.foldl max a∧∀ x∈l,x≤l.foldl max a
 | [],a=>⟨Int.le_refl _,fun x h=>(by cases h)⟩
 | y :: l,a=>by
  obtain ⟨h1,h2⟩:=foldl_maxI_le (l:=l) (a:=max a y)
  rw [List.foldl_cons]
  refine ⟨by omega,fun x hx=>?_⟩
  rcases List.mem_cons.1 hx with rfl | hx
  ·omega
  ·exact h2 x hx
theorem foldl_maxI_in:∀ {l:List Int} {a:Int},l.foldl max a=a∨l.foldl max a∈l
 | [],_ => .inl rfl
 | y :: l,a=>by
  rw [List.foldl_cons]
  rcases foldl_maxI_in (l:=l) (a:=max a y) with h | h
  ·rw [h]
   by_cases e:a≤y
   ·right;rw [show max a y=y by omega];exact List.mem_cons_self
   ·left;omega
  ·exact .inr (List.mem_cons_of_mem _ h)
theorem maxOf_is {l:List Int} (h:l≠[]):Lib.maxOf l∈l∧∀ x∈l,x≤Lib.maxOf l:=by
 obtain ⟨a,l,rfl⟩:=List.exists_cons_of_ne_nil h
 unfold Lib.maxOf
 rw [List.headD_cons]
 refine ⟨?_,foldl_maxI_le.2⟩
 rcases foldl_maxI_in (l:=a :: l) (a:=a) with h | h
 ·rw [h];exact List.mem_cons_self
 ·exact h
theorem row_setN {W:World} {base g n cap i:Nat} {t:TypeId} {N:List Int} (h:W.ownsRow base t 1 (.slice (some ⟨g,0,none⟩) n cap) N.length (vI N)) (hi:i<N.length) (v:Int):(W.setCell ⟨g,i,none⟩ (.int .i64 v)).ownsRow base t 1 (.slice (some ⟨g,0,none⟩) n cap) (N.set i v).length (vI (N.set i v))∧W.cell? ⟨g,i,none⟩=some (.int .i64 N[i])∧W.frozen? ⟨g,i,none⟩=false:=by
 obtain ⟨hl,⟨e,_⟩ | ⟨g',cap',cur,e,hbg,hg,hcap,hmx,hsz,hxs⟩⟩:=h
 ·cases e
 ·cases e
  have hk:Blk W g t cur:=hg
  have hilt:i<cur.size:=by omega
  have hcell:cur[i]?=some (.int .i64 N[i]):=by
   have h1:=congrArg (fun l=>l[i]?) hxs
   simp only [List.getElem?_take,Array.getElem?_toList] at h1
   rw [if_pos (by omega)] at h1
   rw [h1,List.getElem?_map,List.getElem?_eq_getElem hi]
   rfl
  refine ⟨⟨by simp,.inr ⟨g,cap,cur.setIfInBounds i (.int .i64 v),by rw [List.length_set],hbg,hk.set i _,by rw [List.length_set];exact hcap,hmx,by rw [Array.size_setIfInBounds];exact hsz,?_⟩⟩,(hk.cell i).trans hcell,hk.frozen i⟩
  rw [Array.toList_setIfInBounds,List.length_set,List.take_set,hxs]
  simp
theorem own_some {W:World} {base n c:Nat} {t:TypeId} {k:Nat} {a:Option Addr} {xs:List Value} (h:W.ownsRow base t k (.slice a n c) n xs) (hn:0<n):∃ g,a=some ⟨g,0,none⟩:=by
 rcases h.2 with ⟨e,e0⟩ | ⟨g,cap,cur,e,_⟩
 ·omega
 ·cases e;exact ⟨g,rfl⟩
theorem set_snoc {N:List Int} {n:Nat} (h:N.length=n) (a b:Int):(N++[a]).set n b=N++[b]:=by
 subst h
 rw [List.set_append_right _ _ (Nat.le_refl _)]
 simp
structure LfW (w:World) (v1 v2 v3 v4 vk vs vc:Value) (C:List (List Pp)) (N:List Int) (gh:Nat→Value) (uh un:Value) (W:World):Prop where
 b:Below w.heap.size w W
 sp:Blk W w.heap.size 27 #[v1,v2,v3,v4]
 hd:Blk W (w.heap.size+1) 32 #[vk,vs,vc]
 row:W.ownsRow w.heap.size 50 1 uh C.length ((List.range C.length).map gh)
 cs:∀ i (hi:i<C.length),W.ownsRow w.heap.size 78 2 (gh i) C[i].length (ppCs C[i])
 nr:W.ownsRow w.heap.size 3 1 un N.length (vI N)
section
variable {w W W' : World} {v1 v2 v3 v4 vk vs vc uh un : Value} {C : List (List Pp)} {N : List Int} {gh : Nat → Value}
theorem LfW.later (h:LfW w v1 v2 v3 v4 vk vs vc C N gh uh un W) (hb:Below W.heap.size W W'):LfW w v1 v2 v3 v4 vk vs vc C N gh uh un W' :=
 ⟨below_step h.b hb,h.sp.below hb,h.hd.below hb,row_later h.row hb,fun i hi=>row_later (h.cs i hi) hb,row_later h.nr hb⟩
theorem LfW.push (h:LfW w v1 v2 v3 v4 vk vs vc C N gh uh un W) {o:Obj} {m:List Pp} {mv uh':Value} (hm:W.ownsRow w.heap.size 78 2 mv m.length (ppCs m)) (hg:(W.alloc o).grownBy W' uh.ownBlock) (ho:W'.ownsRow w.heap.size 50 1 uh' (C.length+1) ((List.range C.length).map gh++[mv])) :
  LfW w v1 v2 v3 v4 vk vs vc (C++[m]) N (fun i=>if i=C.length then mv else gh i) uh' un W':=by
 have hba:Below W.heap.size W (W.alloc o):=(Below.refl _ W).alloc (Nat.le_refl _) _
 have h1:=h.later hba
 refine ⟨h1.b.grown hg h1.b.size (fun k e=>row_ge h1.row e),h.sp.rowed h.row (by decide) hg,h.hd.rowed h.row (by decide) hg,?_,fun i hi=>?_,owns_rowed h.nr h.row (by decide) hg⟩
 ·have e:(List.range (C++[m]).length).map (fun i=>if i=C.length then mv else gh i)=(List.range C.length).map gh++[mv]:=by
   rw [List.length_append,List.length_singleton,List.range_succ,List.map_append,List.map_singleton,if_pos rfl]
   congr 1
   refine List.map_congr_left fun i hi=>?_
   rw [if_neg (by have:=List.mem_range.1 hi;omega)]
  rw [e,List.length_append,List.length_singleton]
  exact ho
 ·rw [List.length_append,List.length_singleton] at hi
  by_cases e:i=C.length
  ·subst e
   have e2:(C++[m])[C.length]=m:=by simp
   simp only [if_pos]
   rw [e2]
   exact owns_rowed hm h.row (by decide) hg
  ·simp only [if_neg e]
   rw [List.getElem_append_left (by omega)]
   exact owns_rowed (h.cs i (by omega)) h.row (by decide) hg
theorem LfW.count (h:LfW w v1 v2 v3 v4 vk vs vc C N gh uh un W) {o:Obj} {un':Value} {N':List Int} (hg:(W.alloc o).grownBy W' un.ownBlock) (ho:W'.ownsRow w.heap.size 3 1 un' N'.length (vI N')):LfW w v1 v2 v3 v4 vk vs vc C N' gh uh un' W':=by
 have hba:Below W.heap.size W (W.alloc o):=(Below.refl _ W).alloc (Nat.le_refl _) _
 have h1:=h.later hba
 exact ⟨h1.b.grown hg h1.b.size (fun k e=>row_ge h1.nr e),h.sp.rowed h.nr (by decide) hg,h.hd.rowed h.nr (by decide) hg,owns_rowed h.row h.nr (by decide) hg,fun i hi=>owns_rowed (h.cs i hi) h.nr (by decide) hg,ho⟩
theorem LfW.turn {g n cap i:Nat} (h:LfW w v1 v2 v3 v4 vk vs vc C N gh uh (.slice (some ⟨g,0,none⟩) n cap) W) (hi:i<N.length) (v:Int):LfW w v1 v2 v3 v4 vk vs vc C (N.set i v) gh uh (.slice (some ⟨g,0,none⟩) n cap) (W.setCell ⟨g,i,none⟩ (.int .i64 v)):=by
 have hs:=set_grown W g i (.int .i64 v)
 have hge:w.heap.size≤g:=row_ge h.nr rfl
 have hne:∀ {B:Nat} {t:TypeId} {cs:Array Value},Blk W B t cs→t≠3→some g≠some B:=fun hb ht e=>row_not h.nr hb ht e
 refine ⟨h.b.setCell hge _,h.sp.grown hs (hne h.sp (by decide)),h.hd.grown hs (hne h.hd (by decide)),h.row.kept hs (row_apart h.row h.nr (by decide)),fun j hj=>(h.cs j hj).kept hs (row_apart (h.cs j hj) h.nr (by decide)),(row_setN h.nr hi v).1⟩
end
theorem pps_info:(Tryz.prog.info? 50).map (fun i=>(i.zero,i.size,i.bytes))=some (some (.slice none 0 0),1,24):=by kernel_rfl
theorem leftD_any (v1 v2 v3 v4:Value) (S:Sp) (ok:SpWk S) (hc:(checkP S).2=0) (fp:Nat→Value) (vk vs vc:Value) (H:Hn) (hH:HnOk S H) (M:List (List Ft)) (hM:∀ F∈M,FtsOk S F∧F.length≤10) (hM0:M≠[]) (hMl:M.length≤1000000) (lv:Value) (g:Nat→Value) (B:(Th→Int)→Pp→Bool) (hB:SndIs S B) (w:World) (hD:Deb w) (ht:Tabs w) (hsp:SpRd w v1 v2 v3 v4 fp S) (hcap:∀ i,i<S.ss.length→CapOk (fp i)) (hh:HnRd w vk vs vc H) (hlv:StsRd w lv M g) :
  Calls Tryz.prog 57 #[.agg #[v1,v2,v3,v4],lv,.agg #[vk,vs,vc]] w (NumR (leftN S B M (onH H)) w):=by
 obtain ⟨la,lc,rfl⟩:=hlv.form
 obtain ⟨⟨ka,kc,rfl⟩,⟨sa,sc,rfl⟩,⟨ca,cc,rfl⟩⟩:=hh.forms
 obtain ⟨i0,hi0,hz0,hz1,hz2⟩:=info_parts pps_info
 obtain ⟨j0,hj0,jz0,jz1,jz2⟩:=info_parts int1_info
 have hb0:=below_two w (.cells #[v1,v2,v3,v4] 27) (.cells #[.slice ka H.ks.length kc,.slice sa H.ss.length sc,.slice ca H.cs.length cc] 32)
 have k0:=(Blk.new w 27 #[v1,v2,v3,v4]).alloc (.cells #[.slice ka H.ks.length kc,.slice sa H.ss.length sc,.slice ca H.cs.length cc] 32)
 have k1:=Blk.new (w.alloc (.cells #[v1,v2,v3,v4] 27)) 32 #[.slice ka H.ks.length kc,.slice sa H.ss.length sc,.slice ca H.cs.length cc]
 rw [World.size_alloc] at k1
 have HW0:=hid (show LfW w v1 v2 v3 v4 (.slice ka H.ks.length kc) (.slice sa H.ss.length sc) (.slice ca H.cs.length cc) [] [] (fun _ => .nilFunc) (.slice none 0 0) (.slice none 0 0) _ from ⟨hb0,k0,k1,World.ownsRow_nil _ _ _ _,fun i hi=>absurd hi (Nat.not_lt_zero i),World.ownsRow_nil _ _ _ _⟩)
 have HLI:=hid (LfI.zero (fun F=>hearL S B F (onH H)) M)
 have HLV:=hid hlv
 have HM0:=hid hM0
 have HHE:=hid (fun (F:List Ft) (hF:F∈M) (u:Value) (W:World) (hb:Below w.heap.size w W) (hu:ARd W u 3 (F.map ftC))=>hearsD_any v1 v2 v3 v4 S ok hc fp (.slice ka H.ks.length kc) (.slice sa H.ss.length sc) (.slice ca H.cs.length cc) u H hH F (hM F hF).1 (hM F hF).2 B hB W (hD.below hb) (ht.below hb) (hsp.later hb) hcap (hh.later hb) hu)
 have HLN:=hid (show ∀ F,(hearL S B F (onH H)).length≤1000000 from fun F=>Nat.le_trans (List.length_filter_le _ _) (by
  have h1:=allFrom_len (spGood hc).r 0
  have h2:=sp_lens hc
  omega))
 clear hb0 k0 k1 ok hc hH hM hM0 hB hD ht hsp hcap hh hlv
 go_enter Tryz.func57,Tryz.ntmps57
 go_wp2
 generalize (w.alloc (.cells #[v1,v2,v3,v4] 27)).alloc (.cells #[.slice ka H.ks.length kc,.slice sa H.ss.length sc,.slice ca H.cs.length cc] 32)=W0 at *
 go_loopw [7,8,15] (fun uh un x wr=>∃ (k:Nat) (C:List (List Pp)) (N:List Int) (gh:Nat→Value),k≤M.length∧x = .int .i64 k∧Hid (LfI (fun F=>hearL S B F (onH H)) M k C N)∧Hid (LfW w v1 v2 v3 v4 (.slice ka H.ks.length kc) (.slice sa H.ss.length sc) (.slice ca H.cs.length cc) C N gh uh un wr)) (fun _ _ x _=>M.length-(intOf x).toNat)
 case atStart=>exact ⟨0,[],[],_,Nat.zero_le _,rfl,HLI,HW0⟩
 clear HLI HW0
 obtain ⟨k,C,N,gh,hk,rfl,hLI,hW⟩:=hrel
 by_cases hkl:k<M.length
 ·have hk2:(k:Int)<(M.length:Int):=by omega
  obtain ⟨b,o,c',ev,_,q0⟩:=(HLV.out.later hW.out.b).at' hkl
  cases ev
  have hcl:=hLI.out.le
  have HFD:=hid (fun (W:World) (hb:Below w.heap.size w W)=>HHE.out M[k] (List.getElem_mem hkl) (g k) W hb ((HLV.out.later hb).st k hkl))
  obtain ⟨fa,fc,ef⟩:=((HLV.out.later hW.out.b).st k hkl).ftForm
  have HNW:=hid (fun (h:hearL S B M[k] (onH H) ∉ C)=>hLI.out.new hkl h)
  have HMO:=hid (fun (i:Nat) (hi:i<C.length) (he:C[i]=hearL S B M[k] (onH H)) (n:Int) (hn:N[i]?=some n)=>hLI.out.more hkl hi he hn)
  have hml:=HLN.out M[k]
  have HNL:=hid hLI.out.len
  have HNM:=hid (fun (i:Nat) (hi:i<C.length)=>show ∃ c:Nat,N[i]?=some (c:Int)∧c≤M.length from ⟨_,hLI.out.num i hi,Nat.le_trans (List.length_filter_le _ _) (by rw [List.length_take];omega)⟩)
  have hn6:N.length≤1000000:=by have:=HNL.out;omega
  have hn7:(C.length:Int)<(N.length:Int)+1:=by have:=HNL.out;omega
  rw [ef] at q0 HFD
  obtain ⟨m,hm⟩:∃ m,hearL S B M[k] (onH H)=m:=⟨_,rfl⟩
  rw [hm] at HFD HNW HMO hml
  obtain ⟨fl,hfl⟩:∃ fl,M[k].length=fl:=⟨_,rfl⟩
  rw [hfl] at q0 HFD
  obtain ⟨s0,s1,s2,s3⟩:=hW.out.sp.four
  obtain ⟨h0,h1,h2⟩:wr.cell? ⟨w.heap.size+1,0,none⟩=some (.slice ka H.ks.length kc)∧wr.cell? ⟨w.heap.size+1,1,none⟩=some (.slice sa H.ss.length sc)∧wr.cell? ⟨w.heap.size+1,2,none⟩=some (.slice ca H.cs.length cc):=⟨hW.out.hd.cell 0,hW.out.hd.cell 1,hW.out.hd.cell 2⟩
  clear ef hm hfl hLI
  go_wp2_with fail
  refine (HFD.out wr hW.out.b).mono ?_
  rintro e W2 ⟨u,rfl,hrow,hb2⟩
  obtain ⟨ua,un,rfl⟩:=own_form hrow
  have hb3:Below W2.heap.size W2 (W2.alloc (.cells #[.slice ua m.length un] 50)):=(Below.refl _ W2).alloc (Nat.le_refl _) _
  have HW3:=hid ((hW.out.later hb2).later hb3)
  have HM3:=hid (row_later (row_base hrow hW.out.b.size) hb3)
  have HXB:=hid (Blk.new W2 50 #[.slice ua m.length un])
  clear hrow hb2 HFD hW s0 s1 s2 s3 h0 h1 h2 q0
  go_upto_region 7 with fail
  obtain ⟨XB,hXB⟩:∃ XB,W2.heap.size=XB:=⟨_,rfl⟩
  rw [hXB] at HXB ⊢
  generalize W2.alloc (.cells #[.slice ua m.length un] 50)=W3 at *
  clear hb3 hXB
  obtain ⟨ha,hac,rfl⟩:=own_form HW3.out.row
  go_wp2_with fail
  refine (ixHeard_any m C hml (by omega) XB (.slice ua m.length un) (.slice ha C.length hac) gh w.heap.size w.heap.size W3 HXB.out (ARd.of_pps HM3.out) HW3.out.row HW3.out.cs).mono ?_
  rintro e W4 ⟨n,rfl,hcase,hb4⟩
  have HW4:=hid (HW3.out.later hb4)
  have HM4:=hid (row_later HM3.out hb4)
  have x0:W4.cell? ⟨XB,0,none⟩=some (.slice ua m.length un):=(HXB.out.below hb4).cell 0
  clear hb4 HW3 HM3 HXB
  have hsz4:=HW4.out.b.size
  obtain ⟨na,nac,rfl⟩:=own_form HW4.out.nr
  rcases hcase with ⟨rfl,hnin⟩ | ⟨i,hi,rfl,hci⟩
  ·have HLN2:=hid (HNW.out hnin)
   clear hnin HNW HMO
   go_wp2_with (first | (at_builtin;refine wpList_append_lies _ rfl _ _ 153 rfl w.heap.size 50 i0 _ 1 24 Tryz.underlying153 hi0 hz0 hz1 hz2 rfl (by omega) _ _ _ rfl (HW4.out.row.alloc _) ⟨W4.heap.size,0,none⟩ 1 1 [.slice ua m.length un] rfl rfl (World.news_of_block (cs:=#[.slice ua m.length un]) (t:=50) (fr:=(0,0)) (heap_alloc_new W4 _)) (by simp [Value.oneCell']) (by omega) (by unfold maxLen;omega) (by omega) (by simp;omega) (W4.heap.size+1) (by simp) ?_;intro gg cap w5 hown5 hgrow5 hat5 hlt5;have HW5:=hid (HW4.out.push HM4.out hgrow5 hown5);clear hown5 hgrow5 hat5 hlt5;have hsz5:=HW5.out.b.size) | (at_builtin;refine wpList_append_lies _ rfl _ _ 30 rfl w.heap.size 3 j0 _ 1 8 Tryz.underlying30 hj0 jz0 jz1 jz2 rfl (by omega) _ _ _ rfl (HW5.out.nr.alloc _) ⟨w5.heap.size,0,none⟩ 1 1 [.int .i64 0] rfl rfl (World.news_of_block (cs:=#[.int .i64 0]) (t:=3) (fr:=(0,0)) (heap_alloc_new w5 _)) (by simp [Value.oneCell']) (by omega) (by unfold maxLen;omega) (by omega) (by simp;omega) (w5.heap.size+1) (by simp) ?_;intro g2 cap2 w6 hown6 hgrow6 hat6 hlt6;have HW6:=hid (HW5.out.count (N':=N++[0]) hgrow6 (by rw [List.length_append,List.length_singleton];simpa using hown6));clear hown6 hgrow6 hat6 hlt6;obtain ⟨_,y0,y1⟩:=row_setN (i:=C.length) HW6.out.nr (by rw [List.length_append,List.length_singleton,HNL.out];omega) 0;rw [show (N++[(0:Int)])[C.length]'(by rw [List.length_append,List.length_singleton,HNL.out];omega)=0 from by rw [List.getElem_append_right (by rw [HNL.out];exact Nat.le_refl _)];simp] at y0))
   have HT:=hid (HW6.out.turn (i:=C.length) (by rw [List.length_append,List.length_singleton,HNL.out];omega) 1)
   rw [set_snoc HNL.out] at HT
   refine ⟨⟨k+1,C++[m],N++[1],_,by omega,by go_num,HLN2,HT⟩,?_⟩
   simp [intOf]
   omega
  ·obtain ⟨c,hc1,hc2⟩:=HNM.out i hi
   have HL2:=hid (HMO.out i hi hci (c:Int) hc1)
   have hin:i<N.length:=by rw [HNL.out];exact hi
   obtain ⟨ng,rfl⟩:=own_some HW4.out.nr (by omega)
   obtain ⟨_,y0,y1⟩:=row_setN (i:=i) HW4.out.nr hin 0
   rw [show N[i]=(c:Int) from by rw [List.getElem?_eq_getElem hin] at hc1;exact Option.some.inj hc1] at y0
   have e1:IntKind.i64.wrap ((c:Int)+1)=(c:Int)+1:=IntWalk.i64_in _ (by omega)
   have hi8:(i:Int)<(N.length:Int):=by omega
   have HT:=hid (HW4.out.turn hin ((c:Int)+1))
   have hd0:decide ((i:Int)<0)=false:=decide_eq_false (by omega)
   clear hc1 HMO HNW hci HNM
   go_wp2
   refine ⟨⟨k+1,C,N.set i ((c:Int)+1),_,by omega,by go_num,HL2,HT⟩,?_⟩
   simp [intOf]
   omega
 ·have hk2:¬ (k:Int)<(M.length:Int):=by omega
  have hke:k=M.length:=by omega
  rw [hke] at hLI
  have hne:N≠[]:=fun e=>by
   obtain ⟨F,M',hFM⟩:=List.exists_cons_of_ne_nil HM0.out
   have h1:=(hLI.out.mem (hearL S B F (onH H))).2 ⟨F,by rw [List.take_length,hFM];exact List.mem_cons_self,rfl⟩
   have h2:=hLI.out.len
   rw [e] at h2
   have h3:C=[]:=List.length_eq_zero_iff.1 h2.symm
   rw [h3] at h1
   exact absurd h1 List.not_mem_nil
  have hpos:0<N.length:=List.length_pos_iff.2 hne
  have hnl:=hLI.out.len
  have hcl:=hLI.out.le
  have HMX:=hid (hLI.out.max (maxOf_is hne).1 (maxOf_is hne).2)
  obtain ⟨na,nac,rfl⟩:=own_form hW.out.nr
  obtain ⟨ng,rfl⟩:=own_some hW.out.nr hpos
  have HCA:=hid (Tryz.slices_Max_int ng 0 N.length nac N wr hpos (Nat.le_refl _) (by omega) (fun j hj=>by
   rw [Nat.zero_add,(row_setN hW.out.nr hj 0).2.1,getD_int hj]))
  rw [List.take_length,HMX.out] at HCA
  have HBE:=hid hW.out.b
  clear hke hne hpos hnl hcl HMX hLI hW
  go_wp2_with fail
  refine HCA.out.mono ?_
  rintro e w' ⟨rfl,rfl⟩
  go_wp2
  go_ret
  exact numR rfl HBE.out
end Go.Proofs.YteflhbfgpknabaaGreatDoor
