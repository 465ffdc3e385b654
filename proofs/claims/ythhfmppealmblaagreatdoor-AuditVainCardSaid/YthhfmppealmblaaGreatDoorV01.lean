/-
  A part of the proof: AK5, TB, TE, TF, TG, L27.
-/
import Derived.Test.YthhfmppealmblaaGreatDoorM37
import Derived.Test.YthhfmppealmblaaGreatDoorM14
import Derived.Test.YthhfmppealmblaaGreatDoorM39
import Derived.Test.YthhfmppealmblaaGreatDoorM15
import Derived.Test.YthhfmppealmblaaGreatDoorM21
import Derived.Test.YthhfmppealmblaaGreatDoorM35
import Derived.Test.YthhfmppealmblaaGreatDoorM23
import Derived.Test.YthhfmppealmblaaGreatDoorM38
import Derived.Test.YthhfmppealmblaaGreatDoorM41
namespace Go.Proofs.YthhfmppealmblaaGreatDoor
open Go.RowKit
theorem append_ev (W:World) (base:Nat) (V:Value) (xs:List Ev) (hown:W.ownsRow base 42 5 V xs.length (xs.map evC).flatten) (v:Value) (l:List Ev) (hv:ARd W v 5 (l.map evC)) (hl:xs.length+l.length≤1000000000) (hb:base≤W.heap.size) :
  ∃ V' w',(Builtin.append_ #[28,28] 28 #[V,v]).run Tryz.prog W = .ok V' w'∧w'.ownsRow base 42 5 V' (xs++l).length ((xs++l).map evC).flatten∧W.grownBy w' V.ownBlock:=by
 obtain ⟨i0,hi,hz0,hz1,hz2⟩:=info_parts ev_info
 obtain ⟨V',w',h1,h2,h3⟩:=append_src W base 28 42 i0 _ 5 40 Tryz.underlying28 hi hz0 hz1 hz2 rfl (by omega) (by omega) V xs.length _ hown v (l.map evC) (by intro r hr;obtain ⟨p,_,rfl⟩:=List.mem_map.1 hr;rfl) (by intro u hu;obtain ⟨r,hr,hu⟩:=List.mem_flatten.1 hu;obtain ⟨p,_,rfl⟩:=List.mem_map.1 hr;simp only [evC,List.mem_cons,List.not_mem_nil,or_false] at hu;rcases hu with rfl | rfl | rfl | rfl | rfl <;> rfl) hv (by simpa using hl) hb
 refine ⟨V',w',h1,?_,h3⟩
 rw [List.length_map] at h2
 rw [List.length_append,List.map_append,List.flatten_append]
 exact h2
end Go.Proofs.YthhfmppealmblaaGreatDoor
namespace Go.Proofs.YthhfmppealmblaaGreatDoor
open Go.RowKit
theorem row_formS {W:World} {base:Nat} {t:TypeId} {k n:Nat} {v:Value} {xs:List Value} (h:W.ownsRow base t k v n xs):∃ a c,v = .slice a n c:=by
 rcases h.2 with ⟨rfl,rfl⟩ | ⟨g,cap,cur,rfl,_⟩
 ·exact ⟨_,_,rfl⟩
 ·exact ⟨_,_,rfl⟩
theorem row_apartS {W:World} {b b2:Nat} {t t2:TypeId} {k k2 n n2:Nat} {v v2:Value} {xs xs2:List Value} (h:W.ownsRow b t k v n xs) (h2:W.ownsRow b2 t2 k2 v2 n2 xs2) (hne:t≠t2):v.ownBlock=none∨v.ownBlock≠v2.ownBlock:=by
 rcases h.2 with ⟨rfl,_⟩ | ⟨g,cap,cur,rfl,_,hg,_⟩
 ·exact .inl rfl
 ·right
  rcases h2.2 with ⟨rfl,_⟩ | ⟨g2,cap2,cur2,rfl,_,hg2,_⟩
  ·simp [Value.ownBlock]
  ·intro q
   have q2:g=g2:=by simpa [Value.ownBlock] using q
   subst q2
   rw [hg] at hg2
   cases hg2
   exact hne rfl
end Go.Proofs.YthhfmppealmblaaGreatDoor
namespace Go.Proofs.YthhfmppealmblaaGreatDoor
def wasN (N:Int→Pp→Bool) (was:Pp→Bool) (ts:List Int):Pp→Bool:=match ts.getLast? with
 | none=>was
 | some u=>N u
theorem wasN_snoc (N:Int→Pp→Bool) (was:Pp→Bool) (ts:List Int) (t:Int):wasN N was (ts++[t])=N t:=by
 unfold wasN
 rw [List.getLast?_concat]
theorem wasN_cons (N:Int→Pp→Bool) (was:Pp→Bool) (t:Int) (ts:List Int):wasN N was (t :: ts)=wasN N (N t) ts:=by
 unfold wasN
 cases ts with
 | nil=>rfl
 | cons u ts=>rw [List.getLast?_cons_cons,List.getLast?_eq_some_getLast (List.cons_ne_nil u ts)]
theorem sdS_snoc {all:List Pp} {N:Int→Pp→Bool} {t:Int}:∀ {was:Pp→Bool} {out:List Cl} {ts:List Int},sdS all N was out (ts++[t])=stepS all (wasN N was ts) (N t) t (sdS all N was out ts)
 | was,out,[]=>rfl
 | was,out,u :: ts=>by rw [List.cons_append,sdS,sdS,sdS_snoc,wasN_cons]
theorem sdS_take {all:List Pp} {N:Int→Pp→Bool} {was:Pp→Bool} {ts:List Int} {i:Nat} (h:i<ts.length):sdS all N was [] (ts.take (i+1))=stepS all (wasN N was (ts.take i)) (N ts[i]) ts[i] (sdS all N was [] (ts.take i)):=by
 rw [List.take_succ_eq_append_getElem h,sdS_snoc]
theorem sdS_len {all:List Pp} {N:Int→Pp→Bool}:∀ {ts:List Int} {was:Pp→Bool} {out:List Cl},out.length≤(sdS all N was out ts).length
 | [],_,_=>Nat.le_refl _
 | t :: ts,was,out=>by
  rw [sdS]
  have h1:=sdS_len (all:=all) (N:=N) (ts:=ts) (was:=N t) (out:=stepS all was (N t) t out)
  have h2:out.length≤(stepS all was (N t) t out).length:=by
   unfold stepS
   rw [List.length_append,List.length_map]
   omega
  omega
theorem sdS_len_take {all:List Pp} {N:Int→Pp→Bool} {was:Pp→Bool} {ts:List Int} {i:Nat}:(sdS all N was [] (ts.take i)).length≤(sdS all N was [] ts).length:=by
 induction ts generalizing i was with
 | nil=>simp
 | cons t ts ih =>
  cases i with
  | zero=>simp [sdS]
  | succ i =>
   have key:∀ (ts:List Int) (i:Nat) (was:Pp→Bool) (out:List Cl),(sdS all N was out (ts.take i)).length≤(sdS all N was out ts).length:=by
    intro ts
    induction ts with
    | nil=>intro i was out;rw [List.take_nil];exact Nat.le_refl _
    | cons u ts ih2 =>
     intro i was out
     cases i with
     | zero=>rw [List.take_zero];exact sdS_len
     | succ i=>rw [List.take_succ_cons,sdS,sdS];exact ih2 i _ _
   exact key (t :: ts) (i+1) was []
theorem newS_is {all:List Pp} {was N:Pp→Bool} {L M:List Pp} (hL:L=all.filter was) (hM:M=all.filter N) (t:Int):newS all was N t=(M.filter fun p=>decide (p ∉ L)).map fun p=>(p,t,-1):=by
 subst hL hM
 unfold newS
 rw [List.filter_filter]
 congr 1
 refine List.filter_congr fun p hp=>?_
 rw [Bool.eq_iff_iff,Bool.and_eq_true,Bool.and_eq_true,decide_eq_true_iff,List.mem_filter,Bool.not_eq_true']
 constructor
 ·rintro ⟨h1,h2⟩
  exact ⟨fun q=>by rw [h2] at q;exact absurd q.2 (by decide),h1⟩
 ·rintro ⟨h1,h2⟩
  refine ⟨h2,?_⟩
  cases e:was p with
  | false=>rfl
  | true=>exact absurd ⟨hp,e⟩ h1
theorem endS_yes {N:Pp→Bool} {t:Int} {c:Cl} (h1:c.2.2<0) (h2:N c.1=false):endS N t c=(c.1,c.2.1,t):=by unfold endS;rw [if_pos ⟨h1,h2⟩]
theorem endS_no {N:Pp→Bool} {t:Int} {c:Cl} (h:¬ (c.2.2<0∧N c.1=false)):endS N t c=c:=by unfold endS;rw [if_neg h]
def endK (N:Pp→Bool) (t:Int) (out:List Cl) (k:Nat):List Cl:=(out.take k).map (endS N t)++out.drop k
theorem endK_len (N:Pp→Bool) (t:Int) (out:List Cl) (k:Nat):(endK N t out k).length=out.length:=by
 unfold endK
 rw [List.length_append,List.length_map,List.length_take,List.length_drop]
 omega
theorem endK_all (N:Pp→Bool) (t:Int) (out:List Cl):endK N t out out.length=out.map (endS N t):=by
 unfold endK
 rw [List.take_length,List.drop_length,List.append_nil]
theorem endK_at {N:Pp→Bool} {t:Int} {out:List Cl} {k:Nat} (h:k<out.length) (h2:k<(endK N t out k).length):(endK N t out k)[k]=out[k]:=by
 have e:(endK N t out k)[k]?=some out[k]:=by
  unfold endK
  rw [List.getElem?_append_right (by rw [List.length_map,List.length_take];omega),List.length_map,List.length_take,List.getElem?_drop,show k+(k-min k out.length)=k by omega,List.getElem?_eq_getElem h]
 rw [List.getElem?_eq_getElem h2] at e
 exact Option.some.inj e
theorem endK_next {N:Pp→Bool} {t:Int} {out:List Cl} {k:Nat} (h:k<out.length):endK N t out (k+1)=(endK N t out k).set k (endS N t out[k]):=by
 unfold endK
 rw [List.take_succ_eq_append_getElem h,List.map_append,List.map_cons,List.map_nil,List.append_assoc,List.singleton_append]
 have e:(out.take k).map (endS N t)++out.drop k=(out.take k).map (endS N t)++out[k] :: out.drop (k+1):=by rw [List.getElem_cons_drop]
 rw [e,List.set_append_right _ _ (by rw [List.length_map,List.length_take];omega)]
 simp only [List.length_map,List.length_take]
 rw [show k-min k out.length=0 by omega,List.set_cons_zero]
theorem endK_same {N:Pp→Bool} {t:Int} {out:List Cl} {k:Nat} (h:k<out.length) (he:endS N t out[k]=out[k]):endK N t out (k+1)=endK N t out k:=by
 have h2:k<(endK N t out k).length:=by rw [endK_len];exact h
 rw [endK_next h,he,← endK_at h h2,List.set_getElem_self]
theorem ticks_one {l:List Ev} {i k:Nat} (hi:i<l.length) (hb:∀ j (hj:j<l.length),j<i→l[j].1<l[i].1) (hik:i<k) (hk:k≤l.length) (hs:∀ j (hj:j<l.length),i≤j→j<k→l[j].1=l[i].1):ticksL [] (l.take k)=ticksL [] (l.take i)++[l[i].1]:=by
 refine tks_same (asc_ticksL List.Pairwise.nil) ?_ fun t=>?_
 ·rw [List.pairwise_append]
  refine ⟨asc_ticksL List.Pairwise.nil,by simp,fun a hA b hB=>?_⟩
  rw [List.mem_singleton] at hB
  subst hB
  rcases mem_ticksL.1 hA with h | ⟨x,hx,rfl⟩
  ·cases h
  ·obtain ⟨j,hj,rfl⟩:=List.getElem_of_mem hx
   rw [List.length_take] at hj
   rw [List.getElem_take]
   exact hb j (by omega) (by omega)
 ·rw [mem_ticksL,List.mem_append,mem_ticksL,List.mem_singleton]
  constructor
  ·rintro (h | ⟨x,hx,rfl⟩)
   ·cases h
   ·obtain ⟨j,hj,rfl⟩:=List.getElem_of_mem hx
    rw [List.length_take] at hj
    rw [List.getElem_take]
    by_cases q:j<i
    ·exact .inl (.inr ⟨l[j],List.mem_iff_getElem.2 ⟨j,by rw [List.length_take];omega,by rw [List.getElem_take]⟩,rfl⟩)
    ·exact .inr (hs j (by omega) (by omega) (by omega))
  ·rintro ((h | ⟨x,hx,rfl⟩) | rfl)
   ·cases h
   ·obtain ⟨j,hj,rfl⟩:=List.getElem_of_mem hx
    rw [List.length_take] at hj
    rw [List.getElem_take]
    exact .inr ⟨l[j],List.mem_iff_getElem.2 ⟨j,by rw [List.length_take];omega,by rw [List.getElem_take]⟩,rfl⟩
   ·exact .inr ⟨l[i],List.mem_iff_getElem.2 ⟨i,by rw [List.length_take];omega,by rw [List.getElem_take]⟩,rfl⟩
end Go.Proofs.YthhfmppealmblaaGreatDoor
namespace Go.Proofs.YthhfmppealmblaaGreatDoor
open Go.RowKit
set_option maxRecDepth 100000 in
set_option maxHeartbeats 6400000 in
theorem ticks31_any (l:List Ev) (vl:Value) (w:World) (hlv:ARd w vl 5 (l.map evC)) (hl:l.length≤50000) (ha:Asc l) (ht:∀ x∈l,x.1≤100000000) :
  Calls Tryz.prog 53 #[vl,.slice none 0 0] w (fun e w'=>∃ v,e = .returned v∧w'.ownsRow w.heap.size 2 1 v (ticksL [] l).length (iCs (ticksL [] l))∧Below w.heap.size w w'):=by
 obtain ⟨i0,hi0,hz0,hz1,hz2⟩:=info_parts int_info
 obtain ⟨al,cl,rfl⟩:=hlv.evForm
 have HL:=Lib.hid hlv
 have HA:=Lib.hid ha
 have HTK:=Lib.hid ht
 have HR0:=Lib.hid (show w.ownsRow w.heap.size 2 1 (.slice none 0 0) (ticksL [] (l.take 0)).length (iCs (ticksL [] (l.take 0))) from World.ownsRow_nil _ _ _ _)
 have HB0:=Lib.hid (Below.refl w.heap.size w)
 have HE0:=Lib.hid (show ∀ j (hj:j<l.length) (h0:0<l.length),j<0→l[j].1<(l.getD 0 ev0).1 from fun j _ _ h=>absurd h (Nat.not_lt_zero j))
 clear hlv ha ht
 go_enter Tryz.func53,Tryz.ntmps53
 go_wp2
 go_loopw [5,6,7] (fun v x y wr=>∃ i:Nat,i≤l.length∧x = .int .i64 i∧y = .int .i64 0∧RowKit.Hid (wr.ownsRow w.heap.size 2 1 v (ticksL [] (l.take i)).length (iCs (ticksL [] (l.take i))))∧RowKit.Hid (∀ j (hj:j<l.length),j<i→∀ hi:i<l.length,l[j].1<l[i].1)∧RowKit.Hid (Below w.heap.size w wr)) (fun _ x _ _=>l.length-(intOf x).toNat)
 case atStart=>exact ⟨0,Nat.zero_le _,rfl,rfl,HR0,Lib.hid (fun j _ h=>absurd h (Nat.not_lt_zero j)),HB0⟩
 clear HR0 HB0 HE0
 obtain ⟨i,hi,rfl,rfl,hrow,hE,hB⟩:=hrel
 by_cases hil:i<l.length
 ·have hi2:(i:Int)<(l.length:Int):=by omega
  have d1:decide ((i:Int)<(l.length:Int))=true:=decide_eq_true hi2
  obtain ⟨b,o,c',ev,hbl,k0,_,_,_,_⟩:=(HL.out.later hB.out).evAt i hil
  cases ev
  have htk:=HTK.out _ (List.getElem_mem hil)
  obtain ⟨tk,htk2⟩:∃ z,l[i].1=z:=⟨_,rfl⟩
  rw [htk2] at k0 htk
  have HTI:=Lib.hid htk2
  have hmin:min (100000000:Int) tk=tk:=by omega
  have HL2:=Lib.hid (show ∀ j (hj:j<l.length),i≤j→j<i→l[j].1=tk from fun j hj h1 h2=>absurd h2 (by omega))
  rename World=>W1
  have HB1:=Lib.hid (Below.refl W1.heap.size W1)
  clear htk2
  go_wp2
  go_loopw [6] (fun x wr=>∃ k:Nat,i≤k∧k≤l.length∧x = .int .i64 k∧RowKit.Hid (∀ j (hj:j<l.length),i≤j→j<k→l[j].1=tk)∧RowKit.Hid (Below W1.heap.size W1 wr)) (fun x _=>l.length-(intOf x).toNat)
  case atStart=>exact ⟨i,Nat.le_refl _,hi,rfl,HL2,HB1⟩
  clear HL2 HB1
  obtain ⟨k,hik,hk,rfl,hS,hC⟩:=hrel
  have HNX:=Lib.hid (fun (h:i<k)=>ticks_one hil (fun j hj hji=>hE.out j hj hji hil) h hk (fun j hj h1 h2=>by rw [hS.out j hj h1 h2,HTI.out]))
  have hsz:w.heap.size≤wr.heap.size:=Nat.le_trans hB.out.size hC.out.size
  have hlen:=len_ticksL [] (l.take i)
  rw [List.length_take,List.length_nil] at hlen
  have HRW:=Lib.hid (row_later hrow.out hC.out)
  have HBW:=Lib.hid (below_step hB.out hC.out)
  by_cases hkl:k<l.length
  ·have hk2:(k:Int)<(l.length:Int):=by omega
   have e1:decide ((k:Int)<(l.length:Int))=true:=decide_eq_true hk2
   obtain ⟨b2,o2,c2',ev2,hbl2,r0,_,_,_,_⟩:=(HL.out.later HBW.out).evAt k hkl
   cases ev2
   obtain ⟨tj,htj⟩:∃ z,l[k].1=z:=⟨_,rfl⟩
   rw [htj] at r0
   have HTJ:=Lib.hid htj
   clear htj
   by_cases hle:tj≤tk
   ·have e2:decide (tj≤tk)=true:=decide_eq_true hle
    have HS2:=Lib.hid (show ∀ j (hj:j<l.length),i≤j→j<k+1→l[j].1=tk from fun j hj h1 h2=>by
     by_cases q:j<k
     ·exact hS.out j hj h1 q
     ·have:j=k:=by omega
      subst this
      have h3:=HA.out i j hil hj h1
      rw [HTI.out,HTJ.out] at h3
      rw [HTJ.out]
      omega)
    clear hle hS HNX k0
    go_wp2
    go_roundw
    case rel=>exact ⟨k+1,by omega,by omega,by go_num,HS2,hC⟩
    case measure=>simp [intOf];omega
   ·have e2:decide (tj≤tk)=false:=decide_eq_false hle
    have hik2:i<k:=by
     rcases Nat.lt_or_ge i k with q | q
     ·exact q
     ·have:k=i:=by omega
      subst this
      exact absurd (by rw [← HTJ.out,← HTI.out];exact Int.le_refl _) hle
    have HN:=Lib.hid (HNX.out hik2)
    rw [HTI.out] at HN
    have HE2:=Lib.hid (show ∀ j (hj:j<l.length),j<k→∀ hk:k<l.length,l[j].1<l[k].1 from fun j hj h1 hk=>by
     rw [HTJ.out]
     by_cases q:j<i
     ·have:=hE.out j hj q hil
      rw [HTI.out] at this
      omega
     ·rw [hS.out j hj (by omega) h1]
      omega)
    obtain ⟨T,hT⟩:∃ T,ticksL [] (l.take i)=T:=⟨_,rfl⟩
    rw [hT] at HN HRW hlen
    clear hle hS HNX k0 hT hrow hE hB hC
    go_wp2
    go_loop [7] (fun y=>y = .int .i64 0) (fun _=>0)
    case atStart=>rfl
    obtain rfl:=hrel
    go_wp2_with (at_builtin;refine wpList_append_lies _ rfl _ _ 39 rfl w.heap.size 2 i0 _ 1 8 Tryz.underlying39 hi0 hz0 hz1 hz2 rfl (by omega) _ _ _ rfl (HRW.out.alloc _) ⟨wr.heap.size,0,none⟩ 1 1 [.int .i64 tk] rfl rfl (World.news_of_block (cs:=#[.int .i64 tk]) (t:=2) (fr:=(0,0)) (heap_alloc_new wr _)) (by simp [Value.oneCell']) (by omega) (by unfold maxLen;omega) (by omega) (by simp;omega) (wr.heap.size+1) (by simp) ?_;intro gg cap w3 hown3 hgrow hat3 hlt3)
    have HP:=Lib.hid (show w3.ownsRow w.heap.size 2 1 (.slice (some ⟨gg,0,none⟩) (T.length+1) cap) (ticksL [] (l.take k)).length (iCs (ticksL [] (l.take k))) by rw [HN.out,iCs_snoc,List.length_append,List.length_singleton];exact hown3)
    have HB3:=Lib.hid (push_low HBW.out HRW.out hgrow)
    clear hown3 hgrow hat3 hlt3
    go_wp2
    go_roundw
    case rel=>exact ⟨k,hk,by go_num,rfl,HP,HE2,HB3⟩
    case measure=>simp [intOf];omega
  ·have hk2:¬ (k:Int)<(l.length:Int):=by omega
   have e1:decide ((k:Int)<(l.length:Int))=false:=decide_eq_false hk2
   have hik2:i<k:=by omega
   have HN:=Lib.hid (HNX.out hik2)
   rw [HTI.out] at HN
   have HE2:=Lib.hid (show ∀ j (hj:j<l.length),j<k→∀ hk:k<l.length,l[j].1<l[k].1 from fun j hj h1 hk=>absurd hk hkl)
   obtain ⟨T,hT⟩:∃ T,ticksL [] (l.take i)=T:=⟨_,rfl⟩
   rw [hT] at HN HRW hlen
   clear hS HNX k0 hT hrow hE hB hC
   go_wp2
   go_loop [7] (fun y=>y = .int .i64 0) (fun _=>0)
   case atStart=>rfl
   obtain rfl:=hrel
   go_wp2_with (at_builtin;refine wpList_append_lies _ rfl _ _ 39 rfl w.heap.size 2 i0 _ 1 8 Tryz.underlying39 hi0 hz0 hz1 hz2 rfl (by omega) _ _ _ rfl (HRW.out.alloc _) ⟨wr.heap.size,0,none⟩ 1 1 [.int .i64 tk] rfl rfl (World.news_of_block (cs:=#[.int .i64 tk]) (t:=2) (fr:=(0,0)) (heap_alloc_new wr _)) (by simp [Value.oneCell']) (by omega) (by unfold maxLen;omega) (by omega) (by simp;omega) (wr.heap.size+1) (by simp) ?_;intro gg cap w3 hown3 hgrow hat3 hlt3)
   have HP:=Lib.hid (show w3.ownsRow w.heap.size 2 1 (.slice (some ⟨gg,0,none⟩) (T.length+1) cap) (ticksL [] (l.take k)).length (iCs (ticksL [] (l.take k))) by rw [HN.out,iCs_snoc,List.length_append,List.length_singleton];exact hown3)
   have HB3:=Lib.hid (push_low HBW.out HRW.out hgrow)
   clear hown3 hgrow hat3 hlt3
   go_wp2
   go_roundw
   case rel=>exact ⟨k,hk,by go_num,rfl,HP,HE2,HB3⟩
   case measure=>simp [intOf];omega
 ·have hi2:¬ (i:Int)<(l.length:Int):=by omega
  have d1:decide ((i:Int)<(l.length:Int))=false:=decide_eq_false hi2
  have hie:i=l.length:=by omega
  rw [hie,List.take_length] at hrow
  clear hie
  go_wp2
  go_ret
  exact ⟨_,rfl,hrow.out,hB.out⟩
end Go.Proofs.YthhfmppealmblaaGreatDoor
namespace Go.Proofs.YthhfmppealmblaaGreatDoor
open Go.RowKit
theorem clC_len (x:Cl):(clC x).length=4:=rfl
def clCs (l:List Cl):List Value:=(l.map clC).flatten
theorem cl_info:(Tryz.prog.info? 47).map (fun i=>(i.zero,i.size,i.bytes))=some (some (.agg #[.int .i64 0,.int .i64 0,.int .i64 0,.int .i64 0]),4,32):=by kernel_rfl
theorem cls_step {W:World} {base:Nat} {t:TypeId} {v:Value} {l:List Cl} {n:Nat} {p:Pp} {a b:Int} (h:W.ownsRow base t 4 v n (clCs l++[.int .i64 p.1,.int .i64 p.2,.int .i64 a,.int .i64 b])) (hn:n=l.length+1):W.ownsRow base t 4 v (l++[(p,a,b)]).length (clCs (l++[(p,a,b)])):=by
  have e:clCs (l++[(p,a,b)])=clCs l++[.int .i64 p.1,.int .i64 p.2,.int .i64 a,.int .i64 b]:=by simp [clCs,clC]
  rw [e,List.length_append,List.length_singleton,← hn]
  exact h
theorem ARd.of_cls {W:World} {base:Nat} {t:TypeId} {v:Value} {l:List Cl} (h:W.ownsRow base t 4 v l.length (clCs l)):ARd W v 4 (l.map clC) :=
  ARd.of_row (by intro r hr;obtain ⟨p,_,rfl⟩:=List.mem_map.1 hr;rfl) (by rw [List.length_map];exact h)
theorem cls_box {W:World} {base:Nat} {v:Value} {l:List Cl} (h:W.ownsRow base 47 4 v l.length (clCs l)) (h0:l≠[]):∃ g cap,v = .slice (some ⟨g,0,none⟩) l.length cap∧base≤g ∧
    (∀ k (hk:k<l.length),W.cell? ⟨g,k * 4,none⟩=some (.int .i64 l[k].1.1)∧W.cell? ⟨g,k * 4+1,none⟩=some (.int .i64 l[k].1.2)∧W.cell? ⟨g,k * 4+2,none⟩=some (.int .i64 l[k].2.1)∧W.cell? ⟨g,k * 4+3,none⟩=some (.int .i64 l[k].2.2)∧W.frozen? ⟨g,k * 4+3,none⟩=false) ∧
    (∀ k (hk:k<l.length) (t:Int),(W.setCell ⟨g,k * 4+3,none⟩ (.int .i64 t)).ownsRow base 47 4 v (l.set k (l[k].1,l[k].2.1,t)).length (clCs (l.set k (l[k].1,l[k].2.1,t)))):=by
  rcases h.2 with ⟨rfl,e⟩ | ⟨g,cap,cur,rfl,_⟩
  · exact absurd (List.length_eq_zero_iff.1 e) h0
  · obtain ⟨h1,h2,h3,_⟩:=EnB.of_row (enc:=clC) (m:=l) h
    refine ⟨g,cap,rfl,h2,fun k hk=>?_,fun k hk t=>?_⟩
    · have c0:=h1.cell clC_len hk (j:=0) rfl
      have c1:=h1.cell clC_len hk (j:=1) rfl
      have c2:=h1.cell clC_len hk (j:=2) rfl
      have c3:=h1.cell clC_len hk (j:=3) rfl
      exact ⟨c0.1,c1.1,c2.1,c3.1,c3.2⟩
    · have h4:=h1.setk clC_len hk (j:=3) (by omega) (v:=.int .i64 t) (y:=(l[k].1,l[k].2.1,t)) rfl
      have h5:=h4.row clC_len h2 h3
      rw [List.length_set] at h5 ⊢
      exact h5
def SdE (S:Sp) (B:(Th→Int)→Pp→Bool) (l:List Ev) (R:List Cl) (c:Int):Prop:=((recE S l).2≠0∧R=[]∧c=(recE S l).2)∨((recE S l).2=0∧((R=sndsL S B l∧R.length≤20000∧c=0)∨(R=[]∧c=5∧20000<(sndsL S B l).length)))
def SdsR (S:Sp) (B:(Th→Int)→Pp→Bool) (l:List Ev) (w:World) (e:Ending) (w':World):Prop:=∃ v R c,e = .returned (.tuple #[v,.int .i64 c])∧w'.ownsRow w.heap.size 47 4 v R.length (clCs R)∧SdE S B l R c∧Below w.heap.size w w'
theorem filter_take_succ {α:Type} {l:List α} {q:α→Bool} {k:Nat} (h:k<l.length):(l.take (k+1)).filter q=(l.take k).filter q++if q l[k] then [l[k]] else []:=by
  rw [List.take_succ_eq_append_getElem h,List.filter_append]
  cases e:q l[k] with
  | true=>rw [List.filter_cons_of_pos e,List.filter_nil];rfl
  | false=>rw [List.filter_cons_of_neg (by simp [e]),List.filter_nil];rfl
set_option maxRecDepth 100000 in
set_option maxHeartbeats 12800000 in
theorem sounds31_any (v1 v2 v3 v4:Value) (S:Sp) (ok:SpOk S) (fp:Nat→Value) (l:List Ev) (vl:Value) (B:(Th→Int)→Pp→Bool) (hB:SndIs S B) (w:World) (hsp:SpRd w v1 v2 v3 v4 fp S) (hlv:ARd w vl 5 (l.map evC)) (hl:l.length≤50000) :
    Calls Tryz.prog 23 #[.agg #[v1,v2,v3,v4],vl] w (SdsR S B l w):=by
  obtain ⟨i0,hi0,hz0,hz1,hz2⟩:=info_parts cl_info
  have HB0:=Lib.hid (show Below w.heap.size w (w.alloc (.cells #[v1,v2,v3,v4] 27)) from (Below.refl _ w).alloc (Nat.le_refl _) _)
  have B0:=Lib.hid (Blk.new w 27 #[v1,v2,v3,v4])
  have HCK:=Lib.hid (fun (W:World) (hb:Below w.heap.size w W)=>rcheck31_any v1 v2 v3 v4 S ok fp l vl W (hsp.later hb) (by omega) (hlv.later hb))
  have HSP:=Lib.hid hsp
  have HLV:=Lib.hid hlv
  have HSB:=Lib.hid hB
  have HOK:=Lib.hid ok
  obtain ⟨s0,s1,s2,s3⟩:=B0.out.four
  clear hsp hlv hB ok
  go_enter Tryz.func23,Tryz.ntmps23
  go_wp2_with fail
  refine (HCK.out _ HB0.out).mono ?_
  rintro e W ⟨rfl,hb⟩
  have HB1:=Lib.hid (below_step HB0.out hb)
  have B1:=Lib.hid (B0.out.below hb)
  clear HCK hb B0 HB0 s0 s1 s2 s3
  obtain ⟨r1,hr1⟩:∃ r,(recE S l).1=r:=⟨_,rfl⟩
  obtain ⟨r2,hr2⟩:∃ r,(recE S l).2=r:=⟨_,rfl⟩
  rw [hr1,hr2]
  by_cases hz:r2=0
  case neg =>
    have q1:(r2==0)=false:=by simpa using hz
    have HF:=Lib.hid (show SdE S B l [] r2 from .inl ⟨by rw [hr2];exact hz,rfl,hr2.symm⟩)
    clear hz hr1 hr2
    go_wp2
    go_ret2
    exact ⟨_,[],_,rfl,World.ownsRow_nil _ _ _ _,HF.out,HB1.out⟩
  subst hz
  have HR:=Lib.hid (recE_ok hr2)
  have HRZ:=Lib.hid hr2
  have HTK:=Lib.hid (ticks31_any l vl W (HLV.out.later HB1.out) hl HR.out.asc (fun x hx=>(HR.out.nonneg hx).2))
  clear hr1 hr2
  go_wp2_with fail
  refine (HTK.out).mono ?_
  rintro e W2 ⟨vt,rfl,hrt,hb2⟩
  have HB2:=Lib.hid (below_step HB1.out hb2)
  have B2:=Lib.hid (B1.out.below hb2)
  have HTS:=Lib.hid (ARd.of_ints hrt)
  obtain ⟨at',ct,evt⟩:=row_formS hrt
  subst evt
  have HTL:=len_ticksL [] l
  rw [List.length_nil] at HTL
  have HIN:=Lib.hid (ticks_in HR.out)
  have HASC:=Lib.hid (show (ticksL [] l).Pairwise (· < ·) from asc_ticksL List.Pairwise.nil)
  have HSD:=Lib.hid (show sdS (allFrom 0 S.rs) (sndN B l) (fun _=>false) [] (ticksL [] l)=sndsL S B l from rfl)
  obtain ⟨T,hT⟩:∃ T,ticksL [] l=T:=⟨_,rfl⟩
  rw [hT] at HTS HTL HIN HASC HSD ⊢
  have hpl:∀ x∈l,Placed x:=fun x hx=>by
    obtain ⟨i,hi,rfl⟩:=List.getElem_of_mem hx
    exact ev_placed HR.out.sp (HR.out.at' i hi).2
  have HON:=Lib.hid (fun t=>(HR.out.on HRZ.out (upN_spec HR.out.asc t).1).1)
  have HUP:=Lib.hid (fun (t:Int) (W:World) (hb:Below w.heap.size w W)=>up_any l vl t W (by omega) (HLV.out.later hb) hpl)
  have HHA:=Lib.hid (fun (t:Int) (W:World) (c:Array Value) (ho:OnI (onV (l.take (upN l t))) c) (hb:Below w.heap.size w W)=>hand31_any v1 v2 v3 v4 S HR.out.sp fp c _ ho W (HSP.out.later hb))
  have HPI:=Lib.hid (fun (t:Int) (W:World) (vk vs vc:Value) (hb:Below w.heap.size w W) (hh:HdRd W vk vs vc S (onV (l.take (upN l t))))=>pipes12_any v1 v2 v3 v4 S HOK.out HR.out.sp fp vk vs vc (upF l t) (HON.out t) B HSB.out W (HSP.out.later hb) hh)
  have HR0:=Lib.hid (show W2.ownsRow W2.heap.size 47 4 (.slice none 0 0) (sdS (allFrom 0 S.rs) (sndN B l) (fun _=>false) [] (T.take 0)).length (clCs (sdS (allFrom 0 S.rs) (sndN B l) (fun _=>false) [] (T.take 0))) from World.ownsRow_nil _ _ _ _)
  have HW0:=Lib.hid (show W2.ownsRow W2.heap.size 45 2 (.slice none 0 0) ((allFrom 0 S.rs).filter (wasN (sndN B l) (fun _=>false) (T.take 0))).length (ppCs ((allFrom 0 S.rs).filter (wasN (sndN B l) (fun _=>false) (T.take 0)))) by
    have:(allFrom 0 S.rs).filter (wasN (sndN B l) (fun _=>false) (T.take 0))=[]:=List.filter_eq_nil_iff.2 fun p _=>by rw [List.take_zero];exact Bool.false_ne_true
    rw [this]
    exact World.ownsRow_nil _ _ _ _)
  have HLE0:=Lib.hid (show (sdS (allFrom 0 S.rs) (sndN B l) (fun _=>false) [] (T.take 0)).length≤20000 by rw [List.take_zero];exact Nat.zero_le _)
  have HBB0:=Lib.hid (Below.refl W2.heap.size W2)
  have HAL:=allFrom_len (spGood HR.out.sp).r 0
  have HAL2:(allFrom 0 S.rs).length≤4000:=by have:=(spGood HR.out.sp).rs;omega
  have HOKP:=Lib.hid (fun (i:Nat) (c:Cl) (hc:c∈sdS (allFrom 0 S.rs) (sndN B l) (fun _=>false) [] (T.take i))=>by
    obtain ⟨lo,was,h⟩:=sdS_ok (N:=sndN B l) (asc_allFrom 0 S.rs) (sndN_all HSB.out HR.out.sp l) (sdOk_start (allFrom 0 S.rs) (l.map (·.1)) (-1)) (HASC.out.sublist (List.take_sublist i T)) (fun t ht=>HIN.out t (List.mem_of_mem_take ht))
    exact (h.mem c hc).1)
  clear hrt hb2 hT hpl HTK B1 HB1 HAL HIN HASC
  go_wp2
  go_loopw [8,9,11] (fun v u x wr=>∃ (i:Nat),i≤T.length∧x = .int .i64 i∧RowKit.Hid (wr.ownsRow W2.heap.size 47 4 v (sdS (allFrom 0 S.rs) (sndN B l) (fun _=>false) [] (T.take i)).length (clCs (sdS (allFrom 0 S.rs) (sndN B l) (fun _=>false) [] (T.take i))))∧RowKit.Hid (wr.ownsRow W2.heap.size 45 2 u ((allFrom 0 S.rs).filter (wasN (sndN B l) (fun _=>false) (T.take i))).length (ppCs ((allFrom 0 S.rs).filter (wasN (sndN B l) (fun _=>false) (T.take i)))))∧RowKit.Hid ((sdS (allFrom 0 S.rs) (sndN B l) (fun _=>false) [] (T.take i)).length≤20000)∧RowKit.Hid (Below W2.heap.size W2 wr)) (fun _ _ x _=>T.length-(intOf x).toNat)
  case atStart=>exact ⟨0,Nat.zero_le _,rfl,HR0,HW0,HLE0,HBB0⟩
  clear HR0 HW0 HLE0 HBB0
  obtain ⟨i,hi,rfl,hrow,hwas,hle,hB⟩:=hrel
  by_cases hil:i<T.length
  · have hi2:(i:Int)<(T.length:Int):=by omega
    obtain ⟨b,o,c',ev,hbl,k0⟩:=(HTS.out.later hB.out).intAt i hil
    cases ev
    have HST:=Lib.hid (sdS_take (all:=allFrom 0 S.rs) (N:=sndN B l) (was:=fun _=>false) hil)
    have HWN:=Lib.hid (show wasN (sndN B l) (fun _=>false) (T.take (i+1))=sndN B l T[i] by rw [List.take_succ_eq_append_getElem hil,wasN_snoc])
    have HTOT:=Lib.hid (show (sdS (allFrom 0 S.rs) (sndN B l) (fun _=>false) [] (T.take (i+1))).length≤(sndsL S B l).length by rw [← HSD.out];exact sdS_len_take)
    have HAT:=Lib.hid (HOKP.out i)
    obtain ⟨tk,htk⟩:∃ z,T[i]=z:=⟨_,rfl⟩
    rw [htk] at k0 HST HWN
    obtain ⟨R,hRR⟩:∃ R,sdS (allFrom 0 S.rs) (sndN B l) (fun _=>false) [] (T.take i)=R:=⟨_,rfl⟩
    obtain ⟨WS,hWS⟩:∃ R,wasN (sndN B l) (fun _=>false) (T.take i)=R:=⟨_,rfl⟩
    rw [hRR] at hrow hle HST HAT
    rw [hWS] at hwas HST
    obtain ⟨L,hL⟩:∃ L,(allFrom 0 S.rs).filter WS=L:=⟨_,rfl⟩
    rw [hL] at hwas
    obtain ⟨M,hM⟩:∃ M,sndL S B (upF l tk)=M:=⟨_,rfl⟩
    have HNS:=Lib.hid (newS_is hL.symm (show M=(allFrom 0 S.rs).filter (sndN B l tk) from hM.symm) tk)
    have HLL:L.length≤4000:=by rw [← hL];have:=List.length_filter_le WS (allFrom 0 S.rs);omega
    have HML:M.length≤4000:=by rw [← hM];exact sndL_len HR.out.sp B _
    have HMI:=Lib.hid (fun (p:Pp) (hp:p∈allFrom 0 S.rs)=>show decide (p∈M)=sndN B l tk p by rw [← hM];unfold sndL;rw [Bool.eq_iff_iff,decide_eq_true_iff,List.mem_filter];exact ⟨fun h=>h.2,fun h=>⟨hp,h⟩⟩)
    have HP1:=Lib.hid (HPI.out tk)
    rw [hM] at HP1
    have HTI:=Lib.hid htk
    have HMM:=Lib.hid (show (allFrom 0 S.rs).filter (sndN B l tk)=M from hM)
    clear htk hRR hWS hL hM
    obtain ⟨s0,s1,s2,s3⟩:=(B2.out.below hB.out).four
    have hdr:=hold5 (W0:=wr) ⟨Below.refl _ wr,s0,s1,s2,s3,k0⟩ ((Below.refl _ wr).drew)
    have HBW:=Lib.hid (below_step HB2.out hB.out)
    go_upto_region 10 with fail
    go_cut [12] from 27 to 104 (fun x12 wx=>∃ (a:Option Addr) (c:Nat),x12 = .slice a M.length c∧RowKit.Hid (wx.ownsRow wr.heap.size 45 2 (.slice a M.length c) M.length (ppCs M))∧RowKit.Hid (Below wr.heap.size wr wx))
    case first =>
      clear hrow hwas hle HST HWN HTOT HAT HNS HMI HTS
      go_region_held3 (fun w'=>Below wr.heap.size wr w'∧w'.cell? ⟨w.heap.size,0,none⟩=some v1∧w'.cell? ⟨w.heap.size,1,none⟩=some v2∧w'.cell? ⟨w.heap.size,2,none⟩=some v3∧w'.cell? ⟨w.heap.size,3,none⟩=some v4∧w'.cell? ⟨b,o+i,none⟩=some (.int .i64 tk)) (first | exact hdr | assumption) (first | (go_at_call 55;(with_reducible refine (HUP.out tk _ (below_step HBW.out hdr.1)).mono ?_);rintro e w2 ⟨c,rfl,hon2,hb2⟩;have hn:=hold5 hdr hb2;clear hb2) | (go_at_call 54;(with_reducible refine (HHA.out tk _ _ hon2 (below_step HBW.out hn.1)).mono ?_);rintro e w3 ⟨vk,vs,vc,rfl,hhd,hb3⟩;have hhd2:=hhd _ (fun _ _ _=>rfl);have hn3:=hold5 hn hb3;clear hb3 hhd) | (go_at_call 51;(with_reducible refine (HP1.out _ _ _ _ (below_step HBW.out hn3.1) hhd2).mono ?_);rintro e w4 ⟨va,rfl,hrw,hb4⟩;obtain ⟨aa,ca,rfl⟩:=row_formS hrw;have hn4:=hold5 hn3 hb4;have hs4:=hn3.1.size;clear hb4))
      all_goals
        (have HQ:=Lib.hid (row_base hrw hs4)
         have HQB:=Lib.hid hn4.1
         clear hdr hn hn3 hn4 hrw hhd2 hon2 hs4 HUP HHA HP1 HPI
         go_wp2_with fail
         go_meet
         exact ⟨aa,ca,rfl,HQ,HQB⟩)
    case rest =>
    obtain ⟨am,cm,rfl,hrm,hbm⟩:=hcut
    rename World=>W4
    have hszw:=hB.out.size
    have HRM:=Lib.hid (row_base hrm.out hszw)
    have HRW:=Lib.hid (row_later hrow.out hbm.out)
    have HWS:=Lib.hid (row_later hwas.out hbm.out)
    have HB4:=Lib.hid (below_step hB.out hbm.out)
    have hRl:=hle.out
    clear hdr s0 s1 s2 s3 k0 hrow hwas hle hrm hbm hB HP1 HBW hszw
    obtain ⟨av,cv,hv8⟩:=row_formS HRW.out
    subst hv8
    have HRW0:=Lib.hid (show W4.ownsRow W2.heap.size 47 4 (.slice av R.length cv) (endK (sndN B l tk) tk R 0).length (clCs (endK (sndN B l tk) tk R 0)) from HRW.out)
    clear HRW
    go_wp2
    go_loopw [14] (fun x wr=>∃ (k:Nat),k≤R.length∧x = .int .i64 k∧RowKit.Hid (wr.ownsRow W2.heap.size 47 4 (.slice av R.length cv) (endK (sndN B l tk) tk R k).length (clCs (endK (sndN B l tk) tk R k)))∧RowKit.Hid (wr.ownsRow W2.heap.size 45 2 (.slice am M.length cm) M.length (ppCs M))∧RowKit.Hid (wr.ownsRow W2.heap.size 45 2 u9 L.length (ppCs L))∧RowKit.Hid (Below W2.heap.size W2 wr)) (fun x _=>R.length-(intOf x).toNat)
    case atStart=>exact ⟨0,Nat.zero_le _,rfl,HRW0,HRM,HWS,HB4⟩
    clear HRW0 HRM HWS HB4
    obtain ⟨k,hk,rfl,hrow,hrm,hwas,hB⟩:=hrel
    by_cases hkl:k<R.length
    · have hk2:(k:Int)<(R.length:Int):=by omega
      have hke:k<(endK (sndN B l tk) tk R k).length:=by rw [endK_len];exact hkl
      have hne:endK (sndN B l tk) tk R k≠[]:=fun e=>by rw [e] at hke;cases hke
      have HSA:=Lib.hid (fun (h:endS (sndN B l tk) tk R[k]=R[k])=>endK_same (N:=sndN B l tk) (t:=tk) hkl h)
      have HNX:=Lib.hid (endK_next (N:=sndN B l tk) (t:=tk) hkl)
      have HAL:=Lib.hid (HAT.out R[k] (List.getElem_mem hkl))
      have HEK:=Lib.hid (endK_at (N:=sndN B l tk) (t:=tk) hkl hke)
      obtain ⟨g,cap,ev,hg,hcs,_⟩:=cls_box hrow.out hne
      rw [endK_len] at ev
      cases ev
      obtain ⟨k0,k1,k2,k3,_⟩:=hcs k hke
      rw [HEK.out] at k0 k1 k2 k3
      have HBX:=Lib.hid (fun (w5:World) (hb:Below wr.heap.size wr w5)=>(cls_box (row_later hrow.out hb) hne))
      obtain ⟨c,hcn⟩:∃ c,R[k]=c:=⟨_,rfl⟩
      rw [hcn] at k0 k1 k2 k3 HSA HNX HAL
      obtain ⟨⟨p1,p2⟩,fr,tt⟩:=c
      simp only at k0 k1 k2 k3 HAL
      have HIN:=Lib.hid (in31_any M (.slice am M.length cm) (p1,p2) wr (ARd.of_pps hrm.out) (by omega))
      rw [HMI.out _ HAL.out] at HIN
      obtain ⟨sb,hsb⟩:∃ sb,sndN B l tk (p1,p2)=sb:=⟨_,rfl⟩
      rw [hsb] at HIN
      have HCN:=Lib.hid hcn
      clear hcn hcs k2
      by_cases e1:tt<0
      · have d1:decide (tt<0)=true:=decide_eq_true e1
        cases sb with
        | true =>
          have HE:=Lib.hid (HSA.out (endS_no (fun h=>by have:=h.2;rw [hsb] at this;cases this)))
          clear hsb HSA HNX HBX HEK e1
          go_wp2_with fail
          refine (HIN.out).mono ?_
          rintro e w5 ⟨rfl,hb5⟩
          have H1:=Lib.hid (row_later hrow.out hb5)
          have H2:=Lib.hid (row_later hrm.out hb5)
          have H3:=Lib.hid (row_later hwas.out hb5)
          have H4:=Lib.hid (below_step hB.out hb5)
          clear hb5 k0 k1 k3 hrow hrm hwas hB HIN
          go_wp2
          go_roundw
          case rel=>exact ⟨k+1,by omega,by go_num,by rw [HE.out];exact H1,H2,H3,H4⟩
          case measure=>simp [intOf];omega
        | false =>
          have HE:=Lib.hid (HNX.out.trans (by rw [endS_yes (c:=((p1,p2),fr,tt)) e1 hsb]:_=(endK (sndN B l tk) tk R k).set k ((p1,p2),fr,tk)))
          clear hsb HSA HNX e1
          go_wp2_with fail
          refine (HIN.out).mono ?_
          rintro e w5 ⟨rfl,hb5⟩
          obtain ⟨g',cap',ev',_,hcs',hput⟩:=HBX.out w5 hb5
          rw [endK_len] at ev'
          cases ev'
          have hcell:=hcs' k hke
          have hrow2:=hput k hke tk
          rw [HEK.out,HCN.out] at hcell hrow2
          obtain ⟨_,_,_,y3,f3⟩:=hcell
          have g1:=set_grown w5 g (k * 4+3) (.int .i64 tk)
          have hr5:=row_later hrow.out hb5
          have H1:=Lib.hid (show (w5.setCell ⟨g,k * 4+3,none⟩ (.int .i64 tk)).ownsRow W2.heap.size 47 4 (.slice (some ⟨g,0,none⟩) R.length cv) (endK (sndN B l tk) tk R (k+1)).length (clCs (endK (sndN B l tk) tk R (k+1))) by rw [HE.out];exact hrow2)
          have H2:=Lib.hid ((row_later hrm.out hb5).kept g1 (row_apartS (row_later hrm.out hb5) hr5 (by decide)))
          have H3:=Lib.hid ((row_later hwas.out hb5).kept g1 (row_apartS (row_later hwas.out hb5) hr5 (by decide)))
          have H4:=Lib.hid ((below_step hB.out hb5).grown g1 (below_step hB.out hb5).size (fun j e=>by cases e;exact hg))
          obtain ⟨bt,ot,c9,ev9,_,z0⟩:=(HTS.out.later (below_step hB.out hb5)).intAt i hil
          cases ev9
          rw [HTI.out] at z0
          clear hb5 k0 k1 k3 hrow hrm hwas hB HIN HBX hcs' hput hrow2 g1 hr5 HEK
          go_wp2
          go_roundw
          case rel=>exact ⟨k+1,by omega,by go_num,H1,H2,H3,H4⟩
          case measure=>simp [intOf];omega
      · have d1:decide (tt<0)=false:=decide_eq_false e1
        have HE:=Lib.hid (HSA.out (endS_no (fun h=>e1 h.1)))
        clear hsb HSA HNX HBX HEK e1 HIN
        go_wp2
        go_roundw
        case rel=>exact ⟨k+1,by omega,by go_num,by rw [HE.out];exact hrow,hrm,hwas,hB⟩
        case measure=>simp [intOf];omega
    have hk2:¬ (k:Int)<(R.length:Int):=by omega
    have hke:k=R.length:=by omega
    rename World=>W5
    rw [hke,endK_all] at hrow
    have hRl2:(R.map (endS (sndN B l tk) tk)).length=R.length:=List.length_map ..
    obtain ⟨R',hR'⟩:∃ R',R.map (endS (sndN B l tk) tk)=R':=⟨_,rfl⟩
    rw [hR'] at hrow hRl2
    have HST2:=Lib.hid (show sdS (allFrom 0 S.rs) (sndN B l) (fun _=>false) [] (T.take (i+1))=R'++(M.filter fun p=>decide (p ∉ L)).map fun p=>(p,tk,-1) by rw [HST.out];unfold stepS;rw [hR',HNS.out])
    have HQ0:=Lib.hid (show W5.ownsRow W2.heap.size 47 4 (.slice av R.length cv) (R'++((M.take 0).filter fun p=>decide (p ∉ L)).map fun p=>(p,tk,-1)).length (clCs (R'++((M.take 0).filter fun p=>decide (p ∉ L)).map fun p=>((p,tk,-1):Cl))) by rw [List.take_zero,List.filter_nil,List.map_nil,List.append_nil];exact hrow.out)
    have hR5:R'.length≤20000:=by omega
    clear hke hk hkl hR' hrow HST HNS HAT
    go_wp2
    go_loopw [8,15] (fun v x wr=>∃ (k:Nat),k≤M.length∧x = .int .i64 k∧RowKit.Hid (wr.ownsRow W2.heap.size 47 4 v (R'++((M.take k).filter fun p=>decide (p ∉ L)).map fun p=>(p,tk,-1)).length (clCs (R'++((M.take k).filter fun p=>decide (p ∉ L)).map fun p=>((p,tk,-1):Cl))))∧RowKit.Hid (wr.ownsRow W2.heap.size 45 2 (.slice am M.length cm) M.length (ppCs M))∧RowKit.Hid (wr.ownsRow W2.heap.size 45 2 u9 L.length (ppCs L))∧RowKit.Hid (Below W2.heap.size W2 wr)) (fun _ x _=>M.length-(intOf x).toNat)
    case atStart=>exact ⟨0,Nat.zero_le _,rfl,HQ0,hrm,hwas,hB⟩
    clear HQ0 hrm hwas hB
    obtain ⟨k,hk,rfl,hrow,hrm,hwas,hB⟩:=hrel
    have hlen:(R'++((M.take k).filter fun p=>decide (p ∉ L)).map fun p=>((p,tk,-1):Cl)).length≤30000:=by
      rw [List.length_append,List.length_map]
      have:=List.length_filter_le (fun p=>decide (p ∉ L)) (M.take k)
      rw [List.length_take] at this
      omega
    by_cases hkl:k<M.length
    · have hk2:(k:Int)<(M.length:Int):=by omega
      have HFS:=Lib.hid (filter_take_succ (q:=fun p=>decide (p ∉ L)) hkl)
      obtain ⟨bm,om,c8,ev8,_,m0,m1⟩:=(ARd.of_pps hrm.out).ppAt k hkl
      cases ev8
      obtain ⟨p,hp⟩:∃ p,M[k]=p:=⟨_,rfl⟩
      rw [hp] at m0 m1 HFS
      have HIN:=Lib.hid (in31_any L u9 p wr (ARd.of_pps hwas.out) (by omega))
      obtain ⟨O,hO⟩:∃ O,(M.take k).filter (fun p=>decide (p ∉ L))=O:=⟨_,rfl⟩
      rw [hO] at hrow hlen HFS
      clear hp hO
      by_cases e1:p∈L
      · rw [decide_eq_true e1] at HIN
        have HE:=Lib.hid (show (M.take (k+1)).filter (fun p=>decide (p ∉ L))=O by rw [HFS.out,if_neg (by simpa using e1),List.append_nil])
        clear e1 HFS
        go_wp2_with fail
        refine (HIN.out).mono ?_
        rintro e w5 ⟨rfl,hb5⟩
        have H1:=Lib.hid (row_later hrow.out hb5)
        have H2:=Lib.hid (row_later hrm.out hb5)
        have H3:=Lib.hid (row_later hwas.out hb5)
        have H4:=Lib.hid (below_step hB.out hb5)
        clear hb5 m0 m1 hrow hrm hwas hB HIN
        go_wp2
        go_roundw
        case rel=>exact ⟨k+1,by omega,by go_num,by rw [HE.out];exact H1,H2,H3,H4⟩
        case measure=>simp [intOf];omega
      · rw [decide_eq_false e1] at HIN
        have HE:=Lib.hid (show (M.take (k+1)).filter (fun p=>decide (p ∉ L))=O++[p] by rw [HFS.out,if_pos (by simpa using e1)])
        clear e1 HFS
        go_wp2_with fail
        refine (HIN.out).mono ?_
        rintro e w5 ⟨rfl,hb5⟩
        have H1:=Lib.hid (row_later hrow.out hb5)
        have H2:=Lib.hid (row_later hrm.out hb5)
        have H3:=Lib.hid (row_later hwas.out hb5)
        have H4:=Lib.hid (below_step hB.out hb5)
        have y0:w5.cell? ⟨bm,om+k * 2,none⟩=some (.int .i64 p.1):=(hb5.cell (cell_size m0)).trans m0
        have y1:w5.cell? ⟨bm,om+k * 2+1,none⟩=some (.int .i64 p.2):=(hb5.cell (cell_size m1)).trans m1
        obtain ⟨bt,ot,c9,ev9,_,z0⟩:=(HTS.out.later H4.out).intAt i hil
        cases ev9
        rw [HTI.out] at z0
        have hsz:=H4.out.size
        have HPL:=Lib.hid (fun (o:Obj) (w6:World) (hg:(w5.alloc o).grownBy w6 u8.ownBlock)=>push_low H4.out H1.out hg)
        have HK2:=Lib.hid (fun (o:Obj) (w6:World) (hg:(w5.alloc o).grownBy w6 u8.ownBlock)=>(H2.out.alloc o).kept hg (row_apartS (H2.out.alloc o) (H1.out.alloc o) (by decide)))
        have HK3:=Lib.hid (fun (o:Obj) (w6:World) (hg:(w5.alloc o).grownBy w6 u8.ownBlock)=>(H3.out.alloc o).kept hg (row_apartS (H3.out.alloc o) (H1.out.alloc o) (by decide)))
        clear hb5 m0 m1 hrow hrm hwas hB HIN
        go_wp2_with fail
        go_region_law ((refine step_append_lies _ rfl _ _ 29 rfl W2.heap.size 47 i0 _ 4 32 Tryz.underlying29 hi0 hz0 hz1 hz2 rfl (by omega) _ _ _ rfl (H1.out.alloc _) ⟨w5.heap.size,0,none⟩ 1 1 [.int .i64 p.1,.int .i64 p.2,.int .i64 tk,.int .i64 (-1)] rfl rfl (World.news_of_block (cs:=#[.int .i64 p.1,.int .i64 p.2,.int .i64 tk,.int .i64 (-1)]) (t:=47) (fr:=(0,0)) (heap_alloc_new w5 _)) (by simp [Value.oneCell']) (by omega) (by unfold maxLen;omega) (by omega) (by simp;omega) (w5.heap.size+1) (by simp) ?_;intro gg cap3 w3 hown3 hgrow hat3 hlt3;have HP3:=Lib.hid hown3;have HB3:=Lib.hid (HPL.out _ _ ⟨hgrow.os,hgrow.tape,hgrow.output,hgrow.size,hgrow.block⟩);have H23:=Lib.hid (HK2.out _ _ ⟨hgrow.os,hgrow.tape,hgrow.output,hgrow.size,hgrow.block⟩);have H33:=Lib.hid (HK3.out _ _ ⟨hgrow.os,hgrow.tape,hgrow.output,hgrow.size,hgrow.block⟩)))
        all_goals
          clear hown3 hgrow hat3 hlt3
          have HP4:=Lib.hid (cls_step (l:=R'++O.map fun p=>((p,tk,-1):Cl)) (p:=p) (a:=tk) (b:=-1) HP3.out rfl)
          rw [List.append_assoc,show (O.map fun p=>((p,tk,-1):Cl))++[(p,tk,-1)]=(O++[p]).map (fun p=>((p,tk,-1):Cl)) by rw [List.map_append];rfl,← HE.out] at HP4
          go_wp2
          go_roundw
          case rel=>exact ⟨k+1,by omega,by go_num,by have:=HP4.out;simpa only [List.length_append,List.length_map,hRl2] using Lib.hid this,H23,H33,HB3⟩
          case measure=>simp [intOf];omega
    have hk2:¬ (k:Int)<(M.length:Int):=by omega
    have hke:k=M.length:=by omega
    rw [hke,List.take_length,← HST2.out] at hrow hlen
    obtain ⟨X,hX⟩:∃ X,sdS (allFrom 0 S.rs) (sndN B l) (fun _=>false) [] (T.take (i+1))=X:=⟨_,rfl⟩
    have HTOT2:=HTOT.out
    rw [hX] at hrow hlen HTOT2
    have HX:=Lib.hid hX
    obtain ⟨a8,c8,hv8⟩:=row_formS hrow.out
    subst hv8
    have HBE:=Lib.hid (below_step HB2.out hB.out)
    clear hke hk hkl hX HST2
    by_cases hbig:20000<X.length
    · have d1:decide ((20000:Int)<(X.length:Int))=true:=decide_eq_true (by omega)
      have HF:=Lib.hid (show SdE S B l [] 5 from .inr ⟨HRZ.out,.inr ⟨rfl,rfl,by omega⟩⟩)
      go_wp2
      go_ret2
      exact ⟨_,[],_,rfl,World.ownsRow_nil _ _ _ _,HF.out,HBE.out⟩
    · have d1:decide ((20000:Int)<(X.length:Int))=false:=decide_eq_false (by omega)
      have HWX:=Lib.hid (show (allFrom 0 S.rs).filter (wasN (sndN B l) (fun _=>false) (T.take (i+1)))=M by rw [HWN.out,HMM.out])
      go_wp2
      go_roundw
      case rel=>exact ⟨i+1,by omega,by go_num,by rw [HX.out];exact hrow,by rw [HWX.out];exact hrm,by rw [HX.out];exact Lib.hid (by omega),hB⟩
      case measure=>simp [intOf];omega
  have hi2:¬ (i:Int)<(T.length:Int):=by omega
  have hie:i=T.length:=by omega
  rw [hie,List.take_length,HSD.out] at hrow hle
  have HBE:=Lib.hid (below_step HB2.out hB.out)
  have HRF:=Lib.hid (row_base hrow.out HB2.out.size)
  have HF:=Lib.hid (show SdE S B l (sndsL S B l) 0 from .inr ⟨HRZ.out,.inl ⟨rfl,hle.out,rfl⟩⟩)
  clear hie hrow hle hwas hB
  go_wp2
  go_ret2
  exact ⟨_,_,_,rfl,HRF.out,HF.out,HBE.out⟩
end Go.Proofs.YthhfmppealmblaaGreatDoor
namespace Go.Proofs.YthhfmppealmblaaGreatDoor
open Go.RowKit
theorem u16_bounds {a:Int} (h:(Lit.int .u16 a).wf=true):0≤a∧a<65536:=by
 have h2:IntKind.u16.min≤a∧a≤IntKind.u16.max:=by simpa only [Lit.wf,Bool.and_eq_true,decide_eq_true_eq] using h
 have e1:IntKind.u16.min=0:=rfl
 have e2:IntKind.u16.max=65535:=rfl
 omega
theorem sdE_few {S:Sp} {B:(Th→Int)→Pp→Bool} {l:List Ev} {R:List Cl} {c:Int} (h:SdE S B l R c) (h0:(recE S l).2=0) (hl:(sndsL S B l).length≤20000):R=sndsL S B l∧c=0:=by
 rcases h with ⟨h1,_⟩ | ⟨_,⟨h1,_,h2⟩ | ⟨_,_,h1⟩⟩
 ·exact absurd h0 h1
 ·exact ⟨h1,h2⟩
 ·omega
theorem run_neCl (a b c d:Int) (w:World):(binOp .neq 47 (.agg #[.int .i64 a,.int .i64 b,.int .i64 c,.int .i64 d]) (.agg #[.int .i64 a,.int .i64 b,.int .i64 c,.int .i64 d])).run Tryz.prog w = .ok (.bool false) w:=by
 rw [run_neq_struct]
 rw [run_equalIn_agg w 9999 47 _ _ (by kernel_rfl) (by kernel_rfl)]
 simp only [Program.fieldsOf,Tryz.underlying47]
 simp [go_sem,Tryz.underlying3,Tryz.underlying2,part]
theorem restL_take {k:Int} {i n:Nat} {l:List Ev} (h:n<l.length):restL k i (l.take (n+1))=restL k i (l.take n)++if keepB k i l[n] then [l[n]] else []:=filter_take_succ h
theorem ARd.of_evs {W:World} {base:Nat} {t:TypeId} {v:Value} {l:List Ev} (h:W.ownsRow base t 5 v l.length (l.map evC).flatten):ARd W v 5 (l.map evC) :=
 ARd.of_row (by intro r hr;obtain ⟨x,_,rfl⟩:=List.mem_map.1 hr;rfl) (by rw [List.length_map];exact h)
theorem push_ev (w wr:World) (V:Value) (xs:List Ev) (x:Ev) (hb:Below w.heap.size w wr) (h:wr.ownsRow w.heap.size 42 5 V xs.length (xs.map evC).flatten) (hl:xs.length≤1000000) :
  ∃ V' w',(Builtin.append_ #[28,28] 28 #[V,.slice (some ⟨wr.heap.size,0,none⟩) 1 1]).run Tryz.prog (wr.alloc (.cells #[.int .i64 x.1,.int .i64 x.2.1,.int .i64 x.2.2.1,.int .i64 x.2.2.2.1,.int .i64 x.2.2.2.2] 42)) = .ok V' w' ∧
   w'.ownsRow w.heap.size 42 5 V' (xs++[x]).length ((xs++[x]).map evC).flatten∧Below w.heap.size w w':=by
 have hkb:=Blk.new wr 42 #[.int .i64 x.1,.int .i64 x.2.1,.int .i64 x.2.2.1,.int .i64 x.2.2.2.1,.int .i64 x.2.2.2.2]
 have hal:Below w.heap.size w (wr.alloc (.cells #[.int .i64 x.1,.int .i64 x.2.1,.int .i64 x.2.2.1,.int .i64 x.2.2.2.1,.int .i64 x.2.2.2.2] 42)):=hb.alloc hb.size _
 obtain ⟨V',w',h1,h2,h3⟩:=append_ev _ w.heap.size V xs (h.alloc _) (.slice (some ⟨wr.heap.size,0,none⟩) 1 1) [x] (ARd.of_blk (k:=5) (rows:=([x]:List Ev).map evC) hkb (by intro r hr;obtain ⟨y,_,rfl⟩:=List.mem_map.1 hr;rfl) rfl _ _ rfl) (by simp;omega) hal.size
 exact ⟨V',w',h1,h2,hal.grown h3 hal.size (fun j e=>row_ge h e)⟩
def IdQ (B:(Th→Int)→Pp→Bool) (l:List Ev) (kd:Int) (ix:Nat):Prop:=kd≠1∧ix<1000∧IdleP B l kd ix
theorem idL_len' {B:(Th→Int)→Pp→Bool} {l:List Ev} {k:Int} {n:Nat} {L:List Int} (h:IdL B l k n L):L.length≤n:=by
 rw [h.one (idL_on B l k n)]
 exact len_onI _ _
set_option maxRecDepth 100000 in
set_option maxHeartbeats 12800000 in
theorem auditVain_walk (v1 v2 v3 v4:Value) (S:Sp) (l:List Ev) (vl:Value) (n:Int) (w:World) (t:Tabs w) (f:Nat→Value) (hsp:SpRd w v1 v2 v3 v4 f S) (hlv:ARd w vl 5 (l.map evC)) (hn0:0≤n) (hn1:n<65536) :
  Calls Tryz.prog 10 #[.agg #[v1,v2,v3,v4],vl,.int .u16 n] w (BoR true w):=by
 obtain ⟨B,hB⟩:=sndIs_ex S
 obtain ⟨al,cl,evl⟩:=hlv.evForm
 subst evl
 have hal:=(Below.refl _ w).alloc (Nat.le_refl w.heap.size) (.cells #[v1,v2,v3,v4] 27)
 have hk:=Blk.new w 27 #[v1,v2,v3,v4]
 have HGR:=Lib.hid (great_any v1 v2 v3 v4 S f l (.slice al l.length cl) _ (hsp.later hal) (hlv.later hal))
 have HAW:=Lib.hid (fun (W:World) (hb:Below w.heap.size w W)=>awake_any W (t.below hb))
 have HT:=Lib.hid t
 have HAL:=Lib.hid hal
 have HK:=Lib.hid hk
 have HSP:=Lib.hid hsp
 have HLV:=Lib.hid hlv
 have HSB:=Lib.hid hB
 obtain ⟨s0,s1,s2,s3⟩:=hk.four
 clear t hal hk hsp hlv hB
 go_enter Tryz.func10,Tryz.ntmps10
 go_wp2_with fail
 refine (HGR.out).mono ?_
 rintro e W ⟨b,rfl,hb0,hb⟩
 have HB1:=Lib.hid (below_step HAL.out hb)
 have HK1:=Lib.hid (HK.out.below hb)
 clear hb HGR HAL HK s0 s1 s2 s3
 cases b with
 | true =>
  clear hb0
  go_wp2_with fail
  refine (HAW.out _ HB1.out).mono ?_
  rintro e W9 ⟨rfl,hb9⟩
  have HB9:=Lib.hid (below_step HB1.out hb9)
  clear hb9
  go_wp2
  go_ret
  exact ⟨rfl,HB9.out⟩
 | false =>
 have HSM:=Lib.hid (hb0 rfl)
 clear hb0
 have hl50:l.length≤50000:=by have:=HSM.out.len;omega
 have HSO:=Lib.hid (fun (x:List Ev) (vx:Value) (W:World) (hb:Below w.heap.size w W) (hx:ARd W vx 5 (x.map evC)) (hx5:x.length≤50000)=>sounds31_any v1 v2 v3 v4 S HSM.out.ok f x vx B HSB.out W (HSP.out.later hb) hx hx5)
 have HWA:=Lib.hid (aidle_any v1 v2 v3 v4 S HSM.out.ok f l (.slice al l.length cl) B HSB.out W (HT.out.below HB1.out) (HSP.out.later HB1.out) (HLV.out.later HB1.out) hl50)
 obtain ⟨s0,s1,s2,s3⟩:=HK1.out.four
 go_wp2_with fail
 refine (HWA.out).mono ?_
 rintro e W2 ⟨vs,vc,L,M,rfl,hrs,hrc,hz,hn,hb⟩
 have HB2:=Lib.hid (below_step HB1.out hb)
 have HK2:=Lib.hid (HK1.out.below hb)
 have HRS:=Lib.hid (ARd.of_ints hrs)
 have HRC:=Lib.hid (ARd.of_ints hrc)
 obtain ⟨a1,c1,rfl⟩:=row_formS hrs
 obtain ⟨a2,c2,rfl⟩:=row_formS hrc
 obtain ⟨e0,he0⟩:∃ e0,audE S l=e0:=⟨_,rfl⟩
 rw [he0] at hz ⊢
 have HE0:=Lib.hid he0
 have HZ:=Lib.hid hz
 clear hrs hrc hz hn hb HWA HB1 HK1 s0 s1 s2 s3 he0
 by_cases z1:e0=0
 case neg =>
  have q1:(e0==0)=false:=by simpa using z1
  have q2:(e0 != 0)=true:=by simpa using z1
  clear z1
  go_wp2_with fail
  refine (HAW.out _ HB2.out).mono ?_
  rintro e W9 ⟨rfl,hb9⟩
  have HB9:=Lib.hid (below_step HB2.out hb9)
  clear hb9
  go_wp2
  go_ret
  exact ⟨rfl,HB9.out⟩
 subst z1
 have HC1:=Lib.hid (rcheck34_any v1 v2 v3 v4 S HSM.out.ok f l (.slice al l.length cl) W2 (HSP.out.later HB2.out) (by omega) (HLV.out.later HB2.out))
 rw [HE0.out] at HC1
 have hl40:l.length≤40:=by have:=(audE_ok HE0.out).len;have:=HSM.out.len;omega
 have HCAN:=Lib.hid (can_few HSM.out (audE_ok HE0.out).sp)
 have hsg:=spGood (audE_ok HE0.out).sp
 obtain ⟨hzL,hzM⟩:=HZ.out rfl
 have hlL:=idL_len' hzL
 have hlM:=idL_len' hzM
 have hss:=hsg.ss
 have hcs:=hsg.cs
 have HZL:=Lib.hid hzL.2
 have HZM:=Lib.hid hzM.2
 have hwr:IntKind.i64.wrap ((L.length:Int)+(M.length:Int))=(L.length:Int)+(M.length:Int):=IntWalk.i64_in _ (by omega)
 clear hzL hzM HZ hsg
 obtain ⟨s0,s1,s2,s3⟩:=HK2.out.four
 go_wp2_with fail
 refine (HC1.out).mono ?_
 rintro e W3 ⟨rfl,hb⟩
 have HB3:=Lib.hid (below_step HB2.out hb)
 have HK3:=Lib.hid (HK2.out.below hb)
 have HRS3:=Lib.hid (HRS.out.later hb)
 have HRC3:=Lib.hid (HRC.out.later hb)
 clear hb HC1 HB2 HK2 HRS HRC s0 s1 s2 s3
 by_cases hz0:L.length+M.length=0
 ·have q5:((L.length:Int)+(M.length:Int)==0)=true:=by rw [beq_iff_eq];omega
  clear hz0
  go_wp2_with fail
  refine (HAW.out _ HB3.out).mono ?_
  rintro e W9 ⟨rfl,hb9⟩
  have HB9:=Lib.hid (below_step HB3.out hb9)
  clear hb9
  go_wp2
  go_ret
  exact ⟨rfl,HB9.out⟩
 have q5:((L.length:Int)+(M.length:Int)==0)=false:=by rw [beq_eq_false_iff_ne];omega
 have hmod:0≤n % ((L.length:Int)+(M.length:Int))∧n % ((L.length:Int)+(M.length:Int))<(L.length:Int)+(M.length:Int):=⟨Int.emod_nonneg _ (by omega),Int.emod_lt_of_pos _ (by omega)⟩
 obtain ⟨k,hkk⟩:∃ k:Nat,n % ((L.length:Int)+(M.length:Int))=(k:Int):=⟨(n % ((L.length:Int)+(M.length:Int))).toNat,by omega⟩
 have hk:k<L.length+M.length:=by omega
 have hnz:((L.length:Int)+(M.length:Int)==0)=false:=q5
 have hnz2:(L.length:Int)+(M.length:Int)≠0:=by omega
 go_upto_region 10 with fail
 go_region
 try rw [hkk]
 clear hkk hmod q5 hz0 hnz hnz2
 go_upto_region 12 with fail
 go_upto_if 56 with fail
 go_cut [10,12] from 56 to 67 (fun x10 x12 wx=>∃ (kd:Int) (ix:Nat),x10 = .int .i64 kd∧x12 = .int .i64 ix∧RowKit.Hid (IdQ B l kd ix)∧RowKit.Hid (Below W3.heap.size W3 wx))
 case first =>
  by_cases hkl:k<L.length
  ·obtain ⟨b,o,c',ev,hbl,x0⟩:=HRS3.out.intAt k hkl
   cases ev
   have hmem:=(HZL.out (L[k])).1 (List.getElem_mem hkl)
   obtain ⟨ix,hix,hix2,hid⟩:=hmem
   rw [hix] at x0
   have hk2:(k:Int)<(L.length:Int):=by omega
   have HQ:=Lib.hid (show IdQ B l 2 ix from ⟨by omega,by omega,hid⟩)
   clear hid hix HZL HZM
   go_wp2
   go_meet
   exact ⟨2,ix,rfl,rfl,HQ,Lib.hid ((Below.refl W3.heap.size W3).drew)⟩
  ·obtain ⟨m,hkm⟩:∃ m,k=L.length+m:=⟨k-L.length,by omega⟩
   have hm:m<M.length:=by omega
   obtain ⟨b,o,c',ev,hbl,x0⟩:=HRC3.out.intAt m hm
   cases ev
   have hmem:=(HZM.out (M[m])).1 (List.getElem_mem hm)
   obtain ⟨ix,hix,hix2,hid⟩:=hmem
   rw [hix] at x0
   have hk2:¬ (k:Int)<(L.length:Int):=by omega
   have e7:IntKind.i64.wrap ((k:Int)-(L.length:Int))=(m:Int):=by rw [show (k:Int)-(L.length:Int)=(m:Int) by omega];exact IntWalk.i64_in _ (by omega)
   have hm2:(m:Int)<(M.length:Int):=by omega
   have HQ:=Lib.hid (show IdQ B l 3 ix from ⟨by omega,by omega,hid⟩)
   clear hid hix HZL HZM
   clear hkm
   go_upto_region 14 with fail
   go_quiet (fail)
   go_wp2
   go_meet
   exact ⟨3,ix,rfl,rfl,HQ,Lib.hid (below_drewN (Below.refl W3.heap.size W3) _)⟩
 case rest =>
 obtain ⟨kd,ix,rfl,rfl,hQ,hBx⟩:=hcut
 rename World=>W4
 have HB4:=Lib.hid (below_step HB3.out hBx.out)
 have HK4:=Lib.hid (HK3.out.below hBx.out)
 clear hBx HB3 HK3 HRS3 HRC3 HZL HZM hwr hk
 have hkd1:kd≠1:=hQ.out.1
 obtain ⟨hq1,hq2,hq3⟩:=vain_law HSB.out HE0.out hkd1 hQ.out.2.2
 have HQ1:=Lib.hid hq1
 have HQ2:=Lib.hid hq2
 have HQ3:=Lib.hid hq3
 have hrl:(restL kd ix l).length≤l.length:=List.length_filter_le _ _
 have hixb:=hQ.out.2.1
 clear hq1 hq2 hq3 hQ hkd1
 have HR0:=Lib.hid (show W4.ownsRow W4.heap.size 42 5 (.slice none 0 0) (restL kd ix (l.take 0)).length ((restL kd ix (l.take 0)).map evC).flatten from World.ownsRow_nil _ _ _ _)
 have HL0:=Lib.hid (Below.refl W4.heap.size W4)
 go_wp2
 go_loopw [13,14] (fun v x wr=>∃ (i:Nat),i≤l.length∧x = .int .i64 i∧RowKit.Hid (wr.ownsRow W4.heap.size 42 5 v (restL kd ix (l.take i)).length ((restL kd ix (l.take i)).map evC).flatten)∧RowKit.Hid (Below W4.heap.size W4 wr)) (fun _ x _=>l.length-(intOf x).toNat)
 case atStart=>exact ⟨0,Nat.zero_le _,rfl,HR0,HL0⟩
 clear HR0 HL0
 obtain ⟨i,hi,rfl,hR,hB⟩:=hrel
 by_cases hil:i<l.length
 ·have hi2:(i:Int)<(l.length:Int):=by omega
  obtain ⟨b,o,c',ev,hbl,y0,y1,y2,y3,y4⟩:=(HLV.out.later (below_step HB4.out hB.out)).evAt i hil
  cases ev
  have hrt:=restL_take (k:=kd) (i:=ix) hil
  obtain ⟨⟨tt,wh,dv,nn,vv⟩,hx⟩:∃ x,l[i]=x:=⟨_,rfl⟩
  rw [hx] at y0 y1 y2 y3 y4 hrt
  dsimp only at y0 y1 y2 y3 y4
  obtain ⟨rs,hrs⟩:∃ rs,restL kd ix (l.take i)=rs:=⟨_,rfl⟩
  have hrsl:rs.length≤1000000:=by rw [← hrs];have:=List.length_filter_le (keepB kd ix) (l.take i);unfold restL;rw [List.length_take] at this;omega
  rw [hrs] at hR hrt
  have HX:=Lib.hid (restL_take (k:=kd) (i:=ix) hil)
  clear hx
  by_cases hkp:keepB kd ix (tt,wh,dv,nn,vv)=true
  ·rw [if_pos hkp] at hrt
   have HRT:=Lib.hid hrt
   obtain ⟨V',w',hr1,ho,hbw⟩:=push_ev W4 wr u13 rs (tt,wh,dv,nn,vv) hB.out hR.out hrsl
   dsimp only at hr1
   have HO:=Lib.hid ho
   have HBW:=Lib.hid hbw
   clear ho hbw hrt hrs
   by_cases k1:wh=kd
   ·have k2:¬ nn=(ix:Int):=by
     intro e
     unfold keepB at hkp
     rw [decide_eq_true k1,decide_eq_true e] at hkp
     cases hkp
    subst k1
    have q1:(wh==wh)=true:=by simp
    have q2:(nn==(ix:Int))=false:=by simpa using k2
    clear hkp k2
    go_wp2_with (at_builtin;refine Lib.wpList_append_run _ rfl _ _ _ _ rfl _ _ rfl rfl _ _ hr1 ?_)
    go_roundw
    case rel=>exact ⟨i+1,by omega,by go_num,by rw [HRT.out];exact HO,HBW⟩
    case measure=>simp [intOf];omega
   ·have q1:(wh==kd)=false:=by simpa using k1
    clear hkp k1
    go_wp2_with (at_builtin;refine Lib.wpList_append_run _ rfl _ _ _ _ rfl _ _ rfl rfl _ _ hr1 ?_)
    go_roundw
    case rel=>exact ⟨i+1,by omega,by go_num,by rw [HRT.out];exact HO,HBW⟩
    case measure=>simp [intOf];omega
  ·rw [if_neg hkp,List.append_nil] at hrt
   have HRT:=Lib.hid hrt
   have hkf:keepB kd ix (tt,wh,dv,nn,vv)=false:=by simpa using hkp
   unfold keepB at hkf
   simp only [Bool.not_eq_false',Bool.and_eq_true,decide_eq_true_iff] at hkf
   obtain ⟨k1,k2⟩:=hkf
   subst k1
   subst k2
   have q1:(wh==wh)=true:=by simp
   have q2:((ix:Int)==(ix:Int))=true:=by simp
   clear hkp hrt hrs
   go_wp2
   go_roundw
   case rel=>exact ⟨i+1,by omega,by go_num,by rw [HRT.out];exact hR,hB⟩
   case measure=>simp [intOf];omega
 have hi2:¬ (i:Int)<(l.length:Int):=by omega
 have hie:i=l.length:=by omega
 subst hie
 rename World=>W5
 have hR2:=hR.out
 rw [List.take_length] at hR2
 have HB5:=Lib.hid (below_step HB4.out hB.out)
 have HK5:=Lib.hid (HK4.out.below hB.out)
 obtain ⟨rs,hrs⟩:∃ rs,restL kd ix l=rs:=⟨_,rfl⟩
 rw [hrs] at hR2 hrl HQ1 HQ2 HQ3
 have HRR:=Lib.hid (ARd.of_evs hR2)
 obtain ⟨a3,c3,hu13⟩:=row_formS hR2
 subst hu13
 clear hR hR2 hB HB4 HK4 hrs hi
 obtain ⟨s0,s1,s2,s3⟩:=HK5.out.four
 go_wp2_with fail
 refine (HSO.out l _ W5 HB5.out (HLV.out.later HB5.out) hl50).mono ?_
 rintro e W6 ⟨vp,R,c,rfl,hrp,hcp,hb⟩
 have hfew:=snds_few HSB.out (audE_ok HE0.out) HCAN.out hl40
 obtain ⟨rfl,rfl⟩:=sdE_few hcp (audE_parts HE0.out).2 hfew
 have HRP:=Lib.hid (ARd.of_cls hrp)
 obtain ⟨ap,cp,rfl⟩:=row_formS hrp
 have HB6:=Lib.hid (below_step HB5.out hb)
 have HK6:=Lib.hid (HK5.out.below hb)
 have HR6:=Lib.hid (HRR.out.later hb)
 clear hb hrp hcp HB5 HK5 HRR s0 s1 s2 s3
 obtain ⟨s0,s1,s2,s3⟩:=HK6.out.four
 go_wp2_with fail
 refine (HSO.out rs _ W6 HB6.out HR6.out (by omega)).mono ?_
 rintro e W7 ⟨vq,R,c,rfl,hrq,hcq,hb⟩
 obtain ⟨rfl,rfl⟩:=sdE_few hcq (audE_parts HQ2.out).2 (by rw [HQ1.out];exact hfew)
 rw [HQ1.out] at hrq
 have HRQ:=Lib.hid (ARd.of_cls hrq)
 obtain ⟨aq,cq,rfl⟩:=row_formS hrq
 have HRP7:=Lib.hid (HRP.out.later hb)
 have HB7:=Lib.hid (below_step HB6.out hb)
 obtain ⟨P,hP⟩:∃ P,sndsL S B l=P:=⟨_,rfl⟩
 rw [hP] at HRP7 HRQ hfew ⊢
 have q6:((P.length:Int)==(P.length:Int))=true:=by simp
 have q7:((rs.length:Int)==(l.length:Int))=false:=by rw [beq_eq_false_iff_ne];have:=HQ3.out;omega
 have HL0:=Lib.hid (Below.refl W7.heap.size W7)
 clear hb hrq hcq HB6 HK6 HR6 HRP s0 s1 s2 s3 hP HQ1
 go_wp2
 go_loopw [19] (fun x wr=>∃ (i:Nat),i≤P.length∧x = .int .i64 i∧RowKit.Hid (Below W7.heap.size W7 wr)) (fun x _=>P.length-(intOf x).toNat)
 case atStart=>exact ⟨0,Nat.zero_le _,rfl,HL0⟩
 clear HL0
 obtain ⟨i,hi,rfl,hB⟩:=hrel
 by_cases hil:i<P.length
 ·have hi2:(i:Int)<(P.length:Int):=by omega
  obtain ⟨b1,o1,c1',ev1,hbl1,x0,x1,x2,x3⟩:=(HRP7.out.later hB.out).clAt i hil
  cases ev1
  obtain ⟨b2,o2,c2',ev2,hbl2,y0,y1,y2,y3⟩:=(HRQ.out.later hB.out).clAt i hil
  cases ev2
  obtain ⟨⟨⟨p1,p2⟩,p3,p4⟩,hp⟩:∃ x,P[i]=x:=⟨_,rfl⟩
  rw [hp] at x0 x1 x2 x3 y0 y1 y2 y3
  dsimp only at x0 x1 x2 x3 y0 y1 y2 y3
  have heq:=fun W=>run_neCl p1 p2 p3 p4 W
  clear hp
  go_upto_region 28 with fail
  go_quiet (fail)
  have HW9:=Lib.hid (below_drewN hB.out nq)
  go_wp2
  go_roundw
  case rel=>exact ⟨i+1,by omega,by go_num,HW9⟩
  case measure=>simp [intOf];omega
 have hi2:¬ (i:Int)<(P.length:Int):=by omega
 have HBF:=Lib.hid (below_step HB7.out hB.out)
 clear hB
 go_wp2_with fail
 refine (HAW.out _ HBF.out).mono ?_
 rintro e Wz ⟨rfl,hbz⟩
 have HBG:=Lib.hid (below_step HBF.out hbz)
 clear hbz
 go_wp2
 go_ret
 exact ⟨rfl,HBG.out⟩
end Go.Proofs.YthhfmppealmblaaGreatDoor
