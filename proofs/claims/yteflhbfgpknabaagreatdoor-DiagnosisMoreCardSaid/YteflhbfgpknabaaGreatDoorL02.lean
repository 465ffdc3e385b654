/-
  A part of the proof: UC,PpP,A1,A2,A3,A0,A4,A5,A6,DA,DB,W1,W10,SpL.
-/
import Derived.Test.YteflhbfgpknabaaGreatDoorL01
import Derived.Test.YteflhbfgpknabaaGreatDoorRows
import Derived.WalkKit
import Derived.WalkSpells
import Derived.WalkLawsBesides
import Derived.Lib.Hide
import Derived.Deep.QuietTactic
import Derived.BigQuiet
import Derived.Deep.RegionHeld3
set_option maxRecDepth 100000
set_option maxHeartbeats 3200000
namespace Go.Proofs.YteflhbfgpknabaaGreatDoor
open Go.Lib (hid)
open Go.RowKit Go.Shelf
abbrev NtP:={ t:Nat // t<128 }
def ntE (x:NtP):Array Value:=#[.int .i64 x.1]
def restW (q:Rw) (i:Nat):List Nat:=if i=0 then upL q.1++(upL q.2).map (64 + ·) else if i=1 then (upL q.2).map (64 + ·) else []
theorem run_word0 (a b:Nat) (w:World):(Instr.index 202 (.agg #[.int .u64 a,.int .u64 b]) (.int .i64 0)).run Tryz.prog w = .ok (.int .u64 a) w:=by
 simp [Instr.index,go_sem,Tryz.sizeOf193,Tryz.isAgg193]
theorem run_word1 (a b:Nat) (w:World):(Instr.index 202 (.agg #[.int .u64 a,.int .u64 b]) (.int .i64 1)).run Tryz.prog w = .ok (.int .u64 b) w:=by
 simp [Instr.index,go_sem,Tryz.sizeOf193,Tryz.isAgg193]
theorem restW_0 (q:Rw):restW q 0=nts q:=by rw [nts_split];rfl
theorem all1_in (n:Nat) (hn:1≤n) (l Bx:Nat) (q:Rw) (hq:RwOk q) (Kp:World→World→Prop) (J Jx:List NtP→World→Prop)
  (hKp:∀ A B,Kp A B→Deb A→Deb B)
  (hY:∀ pre x W,J pre W→pre.length<(nts q).length→YieldAt Fence.wide (n-1) Tryz.prog l (ntE x) W fun e W' =>
   (e = .returned (.bool true)∧J (pre++[x]) W'∧Kp W W')∨(e = .returned (.bool false)∧Jx (pre++[x]) W'))
  (W:World) (hD:Deb W) (hX:Blk W Bx 202 #[.int .u64 q.1,.int .u64 q.2]) (h0:J [] W) :
  CallsIn Fence.wide n Tryz.prog 181 #[.func (.yield l) #[] #[],.pointer (some ⟨Bx,0,none⟩)] W fun e W'=>(∃ v,e = .returned v) ∧
   ((∃ ys:List NtP,ys.map (·.1)=nts q∧J ys W')∨(∃ pre:List NtP,True∧Jx pre W')):=by
 refine callsIn_of_wp Tryz.func181 rfl trivial ?_ rfl
 simp only [Tryz.ntmps181,List.size_toArray,List.length_cons,List.length_nil,Nat.reduceAdd,Nat.reduceSub,Array.replicate_succ,Array.replicate_zero,List.push_toArray,List.append_toArray,List.nil_append,List.cons_append]
 have x0:W.cell? ⟨Bx,0,none⟩=some (.int .u64 q.1):=hX.cell 0
 have x1:W.cell? ⟨Bx,1,none⟩=some (.int .u64 q.2):=hX.cell 1
 have HQ:=hid hq
 have HSTEP:=hid (fun (v:Nat) (hv0:v≠0) (hv:v<2 ^ 64)=>upL_step hv0 hv)
 clear hX
 gi_wp2
 clear x0 x1
 gi_loopw [6] (fun x wr=>∃ (i:Nat) (pre:List NtP),i≤2∧x = .int .i64 i∧pre.map (·.1)++restW q i=nts q∧Deb wr∧J pre wr) (fun x _=>2-(intOf x).toNat)
 case atStart=>exact ⟨0,[],by omega,rfl,by rw [restW_0];rfl,hD,h0⟩
 case round =>
  obtain ⟨i,pre,hi,rfl,hpre,hI,hJs⟩:=hrel
  have HD:=hid hI
  have HJ:=hid hJs
  clear hI hJs hD h0 hq
  rcases (show i=0∨i=1∨i=2 by omega) with rfl | rfl | rfl
  ·have HP:=hid (show pre.map (·.1)++(upL q.1).map (0 + ·)++restW q 1=nts q by simpa [restW] using hpre)
   have HW:=hid (show q.1<2 ^ 64 from HQ.out.lo)
   rw [show ((0:Nat):Int)=0 from rfl]
   have hix:=run_word0 q.1 q.2 wr
   clear hpre
   gi_wp2
   clear hix
   gi_loopw [4] (fun y wr=>∃ (v:Nat) (pre:List NtP),y = .int .u64 v∧v<2 ^ 64∧Hid (pre.map (·.1)++(upL v).map (0 + ·)++restW q 1=nts q)∧Hid (Deb wr)∧Hid (J pre wr)) (fun y _=>(upL (intOf y).toNat).length)
   case atStart=>exact ⟨_,pre,rfl,HW.out,HP,HD,HJ⟩
   case round =>
    clear HP HD HJ HW
    obtain ⟨v,pre,rfl,hv,hP,hD,hJ⟩:=hrel
    by_cases h0:v=0
    ·subst h0
     have HP:=hid (show pre.map (·.1)++restW q 1=nts q by have:=hP.out;rw [upL_zero] at this;simpa using this)
     clear hP
     gi_wp2
     go_roundw
     case rel=>exact ⟨1,pre,by omega,rfl,HP.out,hD.out,hJ.out⟩
     case measure=>simp [intOf]
    ·have q0:((v:Int)==0)=false:=by rw [beq_eq_false_iff_ne];omega
     have q1:((v:Int) != 0)=true:=by rw [bne,q0];rfl
     have HS:=hid (HSTEP.out v h0 hv)
     have hc:=ctz_lt h0 hv
     obtain ⟨u,hu⟩:∃ u,v-1=u:=⟨_,rfl⟩
     have q2:IntKind.u64.wrap ((v:Int)-1)=(u:Int):=by rw [show (v:Int)-1=(u:Int) by omega];exact word_wrap (by omega)
     have q3:bits .and .u64 (v:Int) (u:Int)=((v &&& u:Nat):Int):=word_and hv (by omega)
     have HL:=hid (show (upL (v &&& u)).length<(upL v).length by rw [← hu];exact upL_len h0 hv)
     have hz:v &&& u<2 ^ 64:=by rw [← hu];exact and_pred_lt hv
     rw [hu] at HS
     have HTZ:=hid (fun (w:World) (hT:Deb w)=>tz64_pos v h0 hv w hT)
     obtain ⟨z,hze⟩:∃ z,v &&& u=z:=⟨_,rfl⟩
     obtain ⟨c,hce⟩:∃ c,Lib.ctz 64 v=c:=⟨_,rfl⟩
     rw [hze] at q3 hz HL HS
     rw [hce] at hc HS HTZ
     obtain ⟨xx,hxx⟩:∃ xx:NtP,xx.1=0+c:=⟨⟨0+c,by omega⟩,rfl⟩
     have HPN:=hid (show (pre++[xx]).map (·.1)++(upL z).map (0 + ·)++restW q 1=nts q by have:=hP.out;rw [HS.out] at this;rw [List.map_append,List.map_singleton,hxx];simpa using this)
     have HXX:=hid hxx
     have HLN:=hid (show pre.length<(nts q).length by have h:=congrArg List.length hP.out;rw [HS.out] at h;simp at h;omega)
     clear hP hze hce hu h0 hxx
     gi_wp2_with fail
     refine ⟨trivial,?_⟩
     refine (callsIn_wide.2 (HTZ.out _ hD.out)).mono ?_
     rintro e W3 ⟨rfl,rfl⟩
     obtain ⟨fn,tmps,assign,body,hy,hR⟩:=hY pre xx _ hJ.out HLN.out
     dsimp only [ntE] at hy
     have q4:((xx.1:Nat):Int)=(c:Int):=by have:=HXX.out;omega
     rw [q4] at hy
     gi_wp2_with fail
     refine hR.mono ?_
     rintro e W4 (⟨rfl,hJ4,hk4⟩ | ⟨rfl,hJx4⟩)
     ·have HD4:=hid (hKp _ _ hk4 hD.out)
      have HJ4:=hid hJ4
      clear hJ4 hk4
      gi_wp2
      go_roundw
      case rel=>exact ⟨z,_,rfl,hz,HPN,HD4,HJ4⟩
      case measure=>simp [intOf];exact HL.out
     ·gi_wp2
      refine bodyPost_ret (results_none rfl _ _ _) rfl ?_
      exact ⟨⟨_,rfl⟩,.inr ⟨_,trivial,hJx4⟩⟩
  ·have HP:=hid (show pre.map (·.1)++(upL q.2).map (64 + ·)++restW q 2=nts q by simpa [restW] using hpre)
   have HW:=hid (show q.2<2 ^ 64 from HQ.out.hi)
   rw [show ((1:Nat):Int)=1 from rfl]
   have hix:=run_word1 q.1 q.2 wr
   clear hpre
   gi_wp2
   clear hix
   gi_loopw [4] (fun y wr=>∃ (v:Nat) (pre:List NtP),y = .int .u64 v∧v<2 ^ 64∧Hid (pre.map (·.1)++(upL v).map (64 + ·)++restW q 2=nts q)∧Hid (Deb wr)∧Hid (J pre wr)) (fun y _=>(upL (intOf y).toNat).length)
   case atStart=>exact ⟨_,pre,rfl,HW.out,HP,HD,HJ⟩
   case round =>
    clear HP HD HJ HW
    obtain ⟨v,pre,rfl,hv,hP,hD,hJ⟩:=hrel
    by_cases h0:v=0
    ·subst h0
     have HP:=hid (show pre.map (·.1)++restW q 2=nts q by have:=hP.out;rw [upL_zero] at this;simpa using this)
     clear hP
     gi_wp2
     go_roundw
     case rel=>exact ⟨2,pre,by omega,rfl,HP.out,hD.out,hJ.out⟩
     case measure=>simp [intOf]
    ·have q0:((v:Int)==0)=false:=by rw [beq_eq_false_iff_ne];omega
     have q1:((v:Int) != 0)=true:=by rw [bne,q0];rfl
     have HS:=hid (HSTEP.out v h0 hv)
     have hc:=ctz_lt h0 hv
     obtain ⟨u,hu⟩:∃ u,v-1=u:=⟨_,rfl⟩
     have q2:IntKind.u64.wrap ((v:Int)-1)=(u:Int):=by rw [show (v:Int)-1=(u:Int) by omega];exact word_wrap (by omega)
     have q3:bits .and .u64 (v:Int) (u:Int)=((v &&& u:Nat):Int):=word_and hv (by omega)
     have HL:=hid (show (upL (v &&& u)).length<(upL v).length by rw [← hu];exact upL_len h0 hv)
     have hz:v &&& u<2 ^ 64:=by rw [← hu];exact and_pred_lt hv
     rw [hu] at HS
     have HTZ:=hid (fun (w:World) (hT:Deb w)=>tz64_pos v h0 hv w hT)
     obtain ⟨z,hze⟩:∃ z,v &&& u=z:=⟨_,rfl⟩
     obtain ⟨c,hce⟩:∃ c,Lib.ctz 64 v=c:=⟨_,rfl⟩
     rw [hze] at q3 hz HL HS
     rw [hce] at hc HS HTZ
     obtain ⟨xx,hxx⟩:∃ xx:NtP,xx.1=64+c:=⟨⟨64+c,by omega⟩,rfl⟩
     have HPN:=hid (show (pre++[xx]).map (·.1)++(upL z).map (64 + ·)++restW q 2=nts q by have:=hP.out;rw [HS.out] at this;rw [List.map_append,List.map_singleton,hxx];simpa using this)
     have HXX:=hid hxx
     have HLN:=hid (show pre.length<(nts q).length by have h:=congrArg List.length hP.out;rw [HS.out] at h;simp at h;omega)
     clear hP hze hce hu h0 hxx
     gi_wp2_with fail
     refine ⟨trivial,?_⟩
     refine (callsIn_wide.2 (HTZ.out _ hD.out)).mono ?_
     rintro e W3 ⟨rfl,rfl⟩
     obtain ⟨fn,tmps,assign,body,hy,hR⟩:=hY pre xx _ hJ.out HLN.out
     dsimp only [ntE] at hy
     have q4:((xx.1:Nat):Int)=64+(c:Int):=by have:=HXX.out;omega
     rw [q4] at hy
     gi_wp2_with fail
     refine hR.mono ?_
     rintro e W4 (⟨rfl,hJ4,hk4⟩ | ⟨rfl,hJx4⟩)
     ·have HD4:=hid (hKp _ _ hk4 hD.out)
      have HJ4:=hid hJ4
      clear hJ4 hk4
      gi_wp2
      go_roundw
      case rel=>exact ⟨z,_,rfl,hz,HPN,HD4,HJ4⟩
      case measure=>simp [intOf];exact HL.out
     ·gi_wp2
      refine bodyPost_ret (results_none rfl _ _ _) rfl ?_
      exact ⟨⟨_,rfl⟩,.inr ⟨_,trivial,hJx4⟩⟩
  ·gi_wp2
   go_end0
   exact ⟨⟨_,rfl⟩,.inl ⟨pre,by simpa [restW] using hpre,HJ.out⟩⟩
theorem all_any (a b:Nat) (w:World) :
  Calls Tryz.prog 151 #[.agg #[.int .u64 a,.int .u64 b]] w fun e w'=>e = .returned (.func (.func 181) #[] #[.pointer (some ⟨w.heap.size,0,none⟩)])∧w'=w.alloc (.cells #[.int .u64 a,.int .u64 b] 202):=by
 go_enter Tryz.func151,Tryz.ntmps151
 go_wp2
 go_ret
 exact ⟨rfl,rfl⟩
theorem all_stops (n:Nat) (hn:1≤n) (Bx:Nat) (q:Rw) (hq:RwOk q) (Kp:World→World→Prop) (hKp:∀ A B,Kp A B→Deb A→Deb B) (w:World) (hD:Deb w) (hX:Blk w Bx 202 #[.int .u64 q.1,.int .u64 q.2]) :
  SeqStopsK Fence.wide n Tryz.prog 181 #[.pointer (some ⟨Bx,0,none⟩)] ntE Kp (fun xs=>xs.map (·.1)=nts q) (fun _=>True) (nts q).length w:=by
 intro l J Jx W hW hJ hJx hY h0
 exact all1_in n hn l Bx q hq Kp J Jx hKp hY W (hD.below hW) (hX.below hW) h0
end Go.Proofs.YteflhbfgpknabaaGreatDoor
namespace Go.Proofs.YteflhbfgpknabaaGreatDoor
open Go.Lib (hid)
abbrev Pp:=Int × Int
def ppLt (a b:Pp):Prop:=a.1<b.1∨a.1=b.1∧a.2<b.2
theorem ppLt_irrefl (a:Pp):¬ ppLt a a:=by unfold ppLt;omega
theorem ppLt_trans {a b c:Pp} (h:ppLt a b) (k:ppLt b c):ppLt a c:=by unfold ppLt at *;omega
theorem asc_ext:∀ {l m:List Pp},l.Pairwise ppLt→m.Pairwise ppLt→(∀ x,x∈l↔x∈m)→l=m
 | [],[],_,_,_=>rfl
 | [],b :: m,_,_,h=>by have:=(h b).2 (by simp);simp at this
 | a :: l,[],_,_,h=>by have:=(h a).1 (by simp);simp at this
 | a :: l,b :: m,hl,hm,h=>by
  rw [List.pairwise_cons] at hl hm
  have hab:a=b:=by
   rcases List.mem_cons.1 ((h a).1 (by simp)) with e | e
   ·exact e
   ·rcases List.mem_cons.1 ((h b).2 (by simp)) with k | k
    ·exact k.symm
    ·exact absurd (ppLt_trans (hl.1 b k) (hm.1 a e)) (ppLt_irrefl a)
  subst hab
  congr 1
  refine asc_ext hl.2 hm.2 fun x=>⟨fun hx=>?_,fun hx=>?_⟩
  ·rcases List.mem_cons.1 ((h x).1 (by simp [hx])) with e | e
   ·subst e;exact absurd (hl.1 x hx) (ppLt_irrefl x)
   ·exact e
  ·rcases List.mem_cons.1 ((h x).2 (by simp [hx])) with e | e
   ·subst e;exact absurd (hm.1 x hx) (ppLt_irrefl x)
   ·exact e
def ofRank (i:Int) (lo:Int):Nat→List Pp
 | 0=>[]
 | n+1=>ofRank i lo n++[(i,lo+n)]
theorem mem_ofRank {i lo:Int} {n:Nat} {p:Pp}:p∈ofRank i lo n↔p.1=i∧lo≤p.2∧p.2<lo+n:=by
 obtain ⟨a,b⟩:=p
 induction n with
 | zero=>simp [ofRank]
 | succ n ih=>simp only [ofRank,List.mem_append,ih,List.mem_singleton,Prod.mk.injEq];omega
theorem asc_ofRank (i lo:Int) (n:Nat):(ofRank i lo n).Pairwise ppLt:=by
 induction n with
 | zero=>simp [ofRank]
 | succ n ih =>
  rw [ofRank,List.pairwise_append]
  refine ⟨ih,by simp,fun x hx y hy=>?_⟩
  rw [mem_ofRank] at hx
  simp only [List.mem_singleton] at hy
  subst hy
  unfold ppLt
  simp only
  omega
def allFrom:Int→List Rk→List Pp
 | _,[]=>[]
 | i,r :: l=>ofRank i r.low r.cnt.toNat++allFrom (i+1) l
theorem allFrom_ge:∀ {i:Int} {l:List Rk} {p:Pp},p∈allFrom i l→i≤p.1
 | _,[],_,h=>by simp [allFrom] at h
 | i,r :: l,p,h=>by
  rw [allFrom,List.mem_append] at h
  rcases h with h | h
  ·rw [mem_ofRank] at h;omega
  ·have:=allFrom_ge h;omega
theorem asc_allFrom:∀ (i:Int) (l:List Rk),(allFrom i l).Pairwise ppLt
 | _,[]=>by simp [allFrom]
 | i,r :: l=>by
  rw [allFrom,List.pairwise_append]
  refine ⟨asc_ofRank _ _ _,asc_allFrom _ _,fun x hx y hy=>?_⟩
  have h1:=mem_ofRank.1 hx
  have h2:=allFrom_ge hy
  unfold ppLt
  omega
theorem mem_allFrom:∀ {i:Int} {l:List Rk} {p:Pp},p∈allFrom i l↔∃ k,∃ h:k<l.length,p.1=i+k∧l[k].low≤p.2∧p.2<l[k].low+l[k].cnt.toNat
 | i,[],p=>by simp [allFrom]
 | i,r :: l,p=>by
  rw [allFrom,List.mem_append,mem_ofRank,mem_allFrom]
  constructor
  ·rintro (h | ⟨k,hk,h1,h2,h3⟩)
   ·exact ⟨0,by simp,by simpa using h⟩
   ·exact ⟨k+1,by simpa using hk,by push_cast;omega,by simpa using h2,by simpa using h3⟩
  ·rintro ⟨k,hk,h1,h2,h3⟩
   cases k with
   | zero=>left;exact ⟨by simpa using h1,h2,h3⟩
   | succ k=>right;exact ⟨k,by simpa using hk,by push_cast at h1;omega,by simpa using h2,by simpa using h3⟩
def playsL (x:St) (key:Int):List Pp:=(x.parts.filter fun y=>decide (y.lo≤key∧key≤y.hi)).map fun y=>(y.rank,key+y.shift)
def playsB (x:St) (key:Int) (p:Pp):Bool:=x.parts.any fun y=>decide (y.rank=p.1∧y.lo≤key∧key≤y.hi∧key+y.shift=p.2)
theorem mem_playsL {x:St} {key:Int} {p:Pp}:p∈playsL x key↔playsB x key p=true:=by
 unfold playsL playsB
 rw [List.mem_map,List.any_eq_true]
 constructor
 ·rintro ⟨y,hy,rfl⟩
  rw [List.mem_filter] at hy
  exact ⟨y,hy.1,by have:=hy.2;simp only [decide_eq_true_eq] at this ⊢;exact ⟨trivial,this.1,this.2,trivial⟩⟩
 ·rintro ⟨y,hy,h⟩
  simp only [decide_eq_true_eq] at h
  exact ⟨y,List.mem_filter.2 ⟨hy,by simpa using ⟨h.2.1,h.2.2.1⟩⟩,Prod.ext h.1 h.2.2.2⟩
abbrev Pl:=Int × Int
def keyOk (S:Sp) (p:Pl):Bool:=decide (0≤p.1)&&keyIn S p.1 p.2&&decide (p.1<S.ds.length)
def playedL (f:Th→Int) (d:Int):List Int:=((List.range 128).map fun (k:Nat)=>(k:Int)).filter fun k=>decide (f (1,d,k)=1)
theorem mem_playedL {f:Th→Int} {d k:Int}:k∈playedL f d↔0≤k∧k<128∧f (1,d,k)=1:=by
 unfold playedL
 rw [List.mem_filter,List.mem_map,decide_eq_true_iff]
 constructor
 ·rintro ⟨⟨a,ha,rfl⟩,h⟩
  have:=List.mem_range.1 ha
  exact ⟨by omega,by omega,h⟩
 ·rintro ⟨h1,h2,h3⟩
  exact ⟨⟨k.toNat,List.mem_range.2 (by omega),by omega⟩,h3⟩
def takes (only:Int) (l:List Int):List Int:=if only=1 then l.take 1 else if only=2 then l.drop (l.length-1) else l
inductive Acts (S:Sp) (f:Th→Int):Pl→Prop
 | key (d k:Int) (hd:0≤d∧d<S.ds.length) (h:k∈playedL f d):Acts S f (d,k)
 | cou (i:Nat) (hi:i<S.cs.length) (hon:f (3,0,(i:Int))=1) (k:Int) (hk:k∈takes S.cs[i].only (playedL f S.cs[i].frm)) (ok:keyOk S (S.cs[i].to,k+S.cs[i].shift)=true):Acts S f (S.cs[i].to,k+S.cs[i].shift)
 | thr (i:Nat) (hi:i<S.cs.length) (hon:f (3,0,(i:Int))=1) (ht:S.cs[i].thr=true) (k:Int) (hk:Acts S f (S.cs[i].frm,k)) (ok:keyOk S (S.cs[i].to,k+S.cs[i].shift)=true):Acts S f (S.cs[i].to,k+S.cs[i].shift)
theorem act_in {S:Sp} {f:Th→Int} {Q:Pl→Prop} (h1:∀ d k,0≤d∧d<(S.ds.length:Int)→k∈playedL f d→Q (d,k))
  (h2:∀ i (hi:i<S.cs.length),f (3,0,(i:Int))=1→∀ k∈takes S.cs[i].only (playedL f S.cs[i].frm),keyOk S (S.cs[i].to,k+S.cs[i].shift)=true→Q (S.cs[i].to,k+S.cs[i].shift))
  (h3:∀ i (hi:i<S.cs.length),f (3,0,(i:Int))=1→S.cs[i].thr=true→∀ k,Q (S.cs[i].frm,k)→keyOk S (S.cs[i].to,k+S.cs[i].shift)=true→Q (S.cs[i].to,k+S.cs[i].shift)):∀ p,Acts S f p→Q p:=by
 intro p h
 induction h with
 | key d k hd h=>exact h1 d k hd h
 | cou i hi hon k hk ok=>exact h2 i hi hon k hk ok
 | thr i hi hon ht k _ ok ih=>exact h3 i hi hon ht k ih ok
def Snd (S:Sp) (f:Th→Int) (p:Pp):Prop:=∃ i,∃ hi:i<S.ss.length,f (2,0,(i:Int))=1∧∃ key,Acts S f (S.ss[i].div,key)∧keyOk S (S.ss[i].div,key)=true∧playsB S.ss[i] key p=true
theorem lt_same {α:Type} {lt:α→α→Prop} (irr:∀ a,¬ lt a a) (asy:∀ a b,lt a b→¬ lt b a):∀ {l m:List α},l.Pairwise lt→m.Pairwise lt→(∀ n,n∈l↔n∈m)→l=m
 | [],[],_,_,_=>rfl
 | [],b :: m,_,_,h=>by have:=(h b).2 (by simp);cases this
 | a :: l,[],_,_,h=>by have:=(h a).1 (by simp);cases this
 | a :: l,b :: m,h1,h2,h=>by
  rw [List.pairwise_cons] at h1 h2
  have e:a=b:=by
   have p:=(h a).1 (by simp)
   have q:=(h b).2 (by simp)
   rw [List.mem_cons] at p q
   rcases p with p | p <;> rcases q with q | q
   ·exact p
   ·exact p
   ·exact q.symm
   ·exact absurd (h1.1 b q) (asy _ _ (h2.1 a p))
  subst e
  rw [lt_same irr asy h1.2 h2.2 fun n=>?_]
  have hn:=h n
  rw [List.mem_cons,List.mem_cons] at hn
  constructor
  ·intro q
   rcases hn.1 (.inr q) with e | e
   ·subst e;exact absurd (h1.1 n q) (irr n)
   ·exact e
  ·intro q
   rcases hn.2 (.inr q) with e | e
   ·subst e;exact absurd (h2.1 n q) (irr n)
   ·exact e
def SndIs (S:Sp) (B:(Th→Int)→Pp→Bool):Prop:=∀ f p,B f p=true↔Snd S f p
def sndL (S:Sp) (B:(Th→Int)→Pp→Bool) (f:Th→Int):List Pp:=(allFrom 0 S.rs).filter (B f)
structure OnOk (S:Sp) (f:Th→Int):Prop where
 key:∀ d k:Int,f (1,d,k)≠0→keyOk S (d,k)=true∧0≤k∧k<128∧d<6
 bin:∀ t:Th,t.1=1∨t.1=2∨t.1=3→f t=0∨f t=1
 stop:∀ d n:Int,f (2,d,n)≠0→d=0∧0≤n∧n<S.ss.length
 cou:∀ d n:Int,f (3,d,n)≠0→d=0∧0≤n∧n<S.cs.length
theorem pl_count {l:List Pl} (hn:l.Nodup) (h:∀ x∈l,0≤x.1∧x.1<6∧0≤x.2∧x.2<128):l.length≤768:=by
 have key:∀ (n:Nat) (l:List Nat),l.Nodup→(∀ x∈l,x<n)→l.length≤n:=by
  intro n
  induction n with
  | zero =>
   intro l _ h
   cases l with
   | nil=>exact Nat.le_refl _
   | cons x l=>exact absurd (h x (by simp)) (Nat.not_lt_zero x)
  | succ n ih =>
   intro l hn h
   by_cases hm:n∈l
   ·have h1:=ih (l.erase n) (hn.erase n) fun x hx=>by
     have h2:=h x (List.mem_of_mem_erase hx)
     have h3:x≠n:=fun e=>by
      subst e
      exact (List.Nodup.mem_erase_iff hn).1 hx |>.1 rfl
     omega
    rw [List.length_erase_of_mem hm] at h1
    omega
   ·have h1:=ih l hn fun x hx=>by
     have h2:=h x hx
     have h3:x≠n:=fun e=>hm (e ▸ hx)
     omega
    omega
 have h2:=key 768 (l.map fun x=>(x.1 * 128+x.2).toNat) (by
  rw [List.nodup_iff_pairwise_ne,List.pairwise_map]
  refine (List.Pairwise.and_mem.1 (List.nodup_iff_pairwise_ne.1 hn)).imp ?_
  rintro a b ⟨ha,hb,hne⟩ e
  have h3:=h a ha
  have h4:=h b hb
  exact hne (Prod.ext (by omega) (by omega))) (by
  intro x hx
  obtain ⟨y,hy,rfl⟩:=List.mem_map.1 hx
  have:=h y hy
  omega)
 rwa [List.length_map] at h2
def addM (S:Sp) (m:List Pl) (x:Pl):List Pl:=if keyOk S x=true∧x ∉ m then m++[x] else m
def addQ (S:Sp) (m q:List Pl) (x:Pl):List Pl:=if keyOk S x=true∧x ∉ m then q++[x] else q
theorem addM_yes {S:Sp} {m:List Pl} {x:Pl} (h:keyOk S x=true) (hx:x ∉ m):addM S m x=m++[x]:=if_pos ⟨h,hx⟩
theorem addM_no {S:Sp} {m:List Pl} {x:Pl} (h:keyOk S x=false∨x∈m):addM S m x=m:=if_neg fun q=>by
 rcases h with h | h
 ·rw [h] at q;cases q.1
 ·exact q.2 h
theorem addQ_yes {S:Sp} {m q:List Pl} {x:Pl} (h:keyOk S x=true) (hx:x ∉ m):addQ S m q x=q++[x]:=if_pos ⟨h,hx⟩
theorem addQ_no {S:Sp} {m q:List Pl} {x:Pl} (h:keyOk S x=false∨x∈m):addQ S m q x=q:=if_neg fun z=>by
 rcases h with h | h
 ·rw [h] at z;cases z.1
 ·exact z.2 h
theorem mem_addM {S:Sp} {m:List Pl} {x y:Pl}:y∈addM S m x↔y∈m∨(y=x∧keyOk S x=true):=by
 unfold addM
 by_cases h:keyOk S x=true∧x ∉ m
 ·rw [if_pos h,List.mem_append,List.mem_singleton]
  exact ⟨fun q=>q.imp id fun e=>⟨e,h.1⟩,fun q=>q.imp id fun e=>e.1⟩
 ·rw [if_neg h]
  refine ⟨.inl,fun q=>?_⟩
  rcases q with q | ⟨rfl,q⟩
  ·exact q
  ·exact Classical.byContradiction fun z=>h ⟨q,z⟩
def thrB (S:Sp) (f:Th→Int) (x:Pl) (i:Nat):Bool:=match S.cs[i]? with
 | none=>false
 | some c=>decide (f (3,0,(i:Int))=1)&&c.thr&&decide (c.frm=x.1)
def thrTo (S:Sp) (x:Pl) (i:Nat):Pl:=match S.cs[i]? with
 | none=>x
 | some c=>(c.to,x.2+c.shift)
structure AcI (S:Sp) (f:Th→Int) (m q:List Pl):Prop where
 nodup:m.Nodup
 ok:∀ x∈m,keyOk S x=true
 act:∀ x∈m,Acts S f x
 sub:∀ x∈q,x∈m
 closed:∀ x∈m,x ∉ q→∀ i,i<S.cs.length→thrB S f x i=true→keyOk S (thrTo S x i)=true→thrTo S x i∈m
theorem keyOk_lt {S:Sp} (hd:S.ds.length≤6) (hdv:∀ d∈S.ds,dvE d=0) {x:Pl} (h:keyOk S x=true):0≤x.1∧x.1<S.ds.length∧x.1<6∧0≤x.2∧x.2<128:=by
 unfold keyOk at h
 rw [Bool.and_eq_true,Bool.and_eq_true,decide_eq_true_iff,decide_eq_true_iff] at h
 obtain ⟨⟨h1,h2⟩,h3⟩:=h
 unfold keyIn at h2
 have hb:x.1.toNat<S.ds.length:=by omega
 rw [List.getElem?_eq_getElem hb] at h2
 simp only [decide_eq_true_iff] at h2
 have h4:=hdv _ (List.getElem_mem hb)
 unfold dvE at h4
 split at h4
 ·omega
 ·cases h4
theorem act_thr {S:Sp} {f:Th→Int} {x:Pl} {k:Nat} (hk:k<S.cs.length) (ht:thrB S f x k=true) (hx:Acts S f x) (ok:keyOk S (thrTo S x k)=true):Acts S f (thrTo S x k):=by
 unfold thrB at ht
 unfold thrTo at ok ⊢
 rw [List.getElem?_eq_getElem hk] at ht ok ⊢
 simp only [Bool.and_eq_true,decide_eq_true_iff] at ht ok ⊢
 obtain ⟨d,key⟩:=x
 have e:S.cs[k].frm=d:=ht.2
 subst e
 exact .thr k hk ht.1.1 ht.1.2 key hx ok
structure AcH (S:Sp) (f:Th→Int) (m:List Pl):Prop where
 key:∀ d k,0≤d∧d<(S.ds.length:Int)→k∈playedL f d→(d,k)∈m
 cou:∀ i (hi:i<S.cs.length),f (3,0,(i:Int))=1→∀ k∈takes S.cs[i].only (playedL f S.cs[i].frm),keyOk S (S.cs[i].to,k+S.cs[i].shift)=true→(S.cs[i].to,k+S.cs[i].shift)∈m
theorem act_all {S:Sp} {f:Th→Int} {m:List Pl} (h:AcI S f m []) (hh:AcH S f m) (x:Pl):x∈m↔Acts S f x:=by
 refine ⟨h.act x,act_in (Q:=fun x=>x∈m) hh.key hh.cou ?_ x⟩
 intro i hi hon ht k hk ok
 have e:thrTo S (S.cs[i].frm,k) i=(S.cs[i].to,k+S.cs[i].shift):=by unfold thrTo;rw [List.getElem?_eq_getElem hi]
 rw [← e]
 refine h.closed _ hk (by simp) i hi ?_ (by rw [e];exact ok)
 unfold thrB
 rw [List.getElem?_eq_getElem hi]
 simp only [Bool.and_eq_true,decide_eq_true_iff]
 exact ⟨⟨hon,ht⟩,trivial⟩
abbrev Ft:=Int × Int × Int
def fLt (a b:Ft):Prop:=a.1<b.1∨a.1=b.1∧(a.2.1<b.2.1∨a.2.1=b.2.1∧a.2.2<b.2.2)
instance (a b:Ft):Decidable (fLt a b):=by unfold fLt;infer_instance
theorem fLt_irr (a:Ft):¬ fLt a a:=by unfold fLt;omega
theorem fLt_asy (a b:Ft) (h:fLt a b):¬ fLt b a:=by unfold fLt at *;omega
theorem fLt_trans {a b c:Ft} (h:fLt a b) (k:fLt b c):fLt a c:=by unfold fLt at *;omega
theorem fLt_total (a b:Ft):fLt a b∨a=b∨fLt b a:=by
 obtain ⟨a1,a2,a3⟩:=a
 obtain ⟨b1,b2,b3⟩:=b
 unfold fLt
 simp only [Prod.mk.injEq]
 omega
theorem fts_one {l m:List Ft} (hl:l.Pairwise fLt) (hm:m.Pairwise fLt) (h:∀ x,x∈l↔x∈m):l=m:=lt_same fLt_irr fLt_asy hl hm h
theorem fts_nodup {l:List Ft} (h:l.Pairwise fLt):l.Nodup:=h.imp fun {a b} h e=>by subst e;exact fLt_irr _ h
def opp (x:Ft):Ft:=(if x.1 % 2=1 then x.1+1 else x.1-1,x.2)
def ftOk (S:Sp) (x:Ft):Bool :=
 if x.1=1∨x.1=2 then decide ((x.2.1,x.2.2)∈allFrom 0 S.rs)
 else if x.1=3∨x.1=4 then decide (0≤x.2.1∧x.2.1<S.ss.length∧x.2.2=0)
 else if x.1=5∨x.1=6 then decide (0≤x.2.1∧x.2.1<S.cs.length∧x.2.2=0) else false
theorem ftOk_kind {S:Sp} {x:Ft} (h:ftOk S x=true):1≤x.1∧x.1≤6:=by
 unfold ftOk at h
 split at h
 ·omega
 ·split at h
  ·omega
  ·split at h
   ·omega
   ·cases h
theorem opp_opp {x:Ft}:opp (opp x)=x:=by
 obtain ⟨a,b⟩:=x
 unfold opp
 simp only [Prod.mk.injEq,and_true]
 split <;> split <;> omega
def conB (F:List Ft):Bool:=F.any fun x=>decide (opp x∈F)
structure FtsOk (S:Sp) (F:List Ft):Prop where
 asc:F.Pairwise fLt
 ok:∀ x∈F,ftOk S x=true
 con:∀ x∈F,opp x ∉ F
theorem conB_iff {F:List Ft}:conB F=false↔∀ x∈F,opp x ∉ F:=by
 unfold conB
 rw [List.any_eq_false]
 exact ⟨fun h x hx=>by simpa using h x hx,fun h x hx=>by simpa using h x hx⟩
def onF (F:List Ft) (f:Th→Int):Th→Int:=fun t =>
 if t.1=2∧t.2.1=0 then (if (4,t.2.2,0)∈F then 0 else if (3,t.2.2,0)∈F then 1 else f t)
 else if t.1=3∧t.2.1=0 then (if (6,t.2.2,0)∈F then 0 else if (5,t.2.2,0)∈F then 1 else f t) else f t
theorem onF_key (F:List Ft) (f:Th→Int) (d k:Int):onF F f (1,d,k)=f (1,d,k):=by
 unfold onF
 rw [if_neg (by simp),if_neg (by simp)]
theorem onF_stop (F:List Ft) (f:Th→Int) (n:Int):onF F f (2,0,n)=if (4,n,0)∈F then 0 else if (3,n,0)∈F then 1 else f (2,0,n):=if_pos ⟨rfl,rfl⟩
theorem onF_cou (F:List Ft) (f:Th→Int) (n:Int):onF F f (3,0,n)=if (6,n,0)∈F then 0 else if (5,n,0)∈F then 1 else f (3,0,n):=(if_neg (fun h=>absurd (show (3:Int)=2 from h.1) (by decide))).trans (if_pos ⟨rfl,rfl⟩)
theorem onF_ok {S:Sp} {F:List Ft} (hF:∀ x∈F,ftOk S x=true) {f:Th→Int} (h:OnOk S f):OnOk S (onF F f):=by
 refine ⟨fun d k hn=>h.key d k (by rwa [onF_key] at hn),fun t ht=>?_,fun d n hn=>?_,fun d n hn=>?_⟩
 ·unfold onF
  have:=h.bin t ht
  split
  ·split
   ·exact .inl rfl
   ·split
    ·exact .inr rfl
    ·exact this
  ·split
   ·split
    ·exact .inl rfl
    ·split
     ·exact .inr rfl
     ·exact this
   ·exact this
 ·unfold onF at hn
  split at hn
  ·rename_i hd
   split at hn
   ·exact absurd rfl hn
   ·split at hn
    ·rename_i h3
     have h4:=hF _ h3
     unfold ftOk at h4
     rw [if_neg (by simp),if_pos (by simp)] at h4
     simp only [and_true,decide_eq_true_iff] at h4
     exact ⟨hd.2,h4⟩
    ·exact h.stop d n hn
  ·split at hn
   ·rename_i hd
    simp at hd
   ·exact h.stop d n hn
 ·unfold onF at hn
  split at hn
  ·rename_i hd
   simp at hd
  ·split at hn
   ·rename_i hd
    split at hn
    ·exact absurd rfl hn
    ·split at hn
     ·rename_i h3
      have h4:=hF _ h3
      unfold ftOk at h4
      rw [if_neg (by simp),if_neg (by simp),if_pos (by simp)] at h4
      simp only [and_true,decide_eq_true_iff] at h4
      exact ⟨hd.2,h4⟩
     ·exact h.cou d n hn
   ·exact h.cou d n hn
def hearB (B:(Th→Int)→Pp→Bool) (F:List Ft) (f:Th→Int) (p:Pp):Bool:=(B (onF F f) p||decide ((1,p.1,p.2)∈F))&&!decide ((2,p.1,p.2)∈F)
def hearL (S:Sp) (B:(Th→Int)→Pp→Bool) (F:List Ft) (f:Th→Int):List Pp:=(allFrom 0 S.rs).filter (hearB B F f)
def ownB (x:St) (p:Pp):Bool:=x.parts.any fun y=>decide (y.rank=p.1∧y.lo+y.shift≤p.2∧p.2≤y.hi+y.shift)
theorem plays_has {x:St} {key:Int} {p:Pp} (h:playsB x key p=true):ownB x p=true:=by
 unfold playsB at h
 unfold ownB
 rw [List.any_eq_true] at h ⊢
 obtain ⟨y,hy,h⟩:=h
 simp only [decide_eq_true_iff] at h
 exact ⟨y,hy,by simp only [decide_eq_true_iff];omega⟩
def causeL (S:Sp) (p:Pp):List Ft:=[(1,p.1,p.2),(2,p.1,p.2)]++(List.range S.ss.length).flatMap (fun (i:Nat)=>if (S.ss[i]?.map fun x=>ownB x p)=some true then [(3,(i:Int),0),(4,(i:Int),0)] else [])++(List.range S.cs.length).flatMap fun (i:Nat)=>[(5,(i:Int),0),(6,(i:Int),0)]
theorem cause_pipe (S:Sp) (p:Pp):(1,p.1,p.2)∈causeL S p∧(2,p.1,p.2)∈causeL S p:=by unfold causeL;simp
theorem cause_stop {S:Sp} {p:Pp} {i:Nat} (hi:i<S.ss.length) (h:ownB S.ss[i] p=true):((3,(i:Int),0):Ft)∈causeL S p∧((4,(i:Int),0):Ft)∈causeL S p:=by
 have e:(S.ss[i]?.map fun x=>ownB x p)=some true:=by rw [List.getElem?_eq_getElem hi,Option.map_some,h]
 unfold causeL
 constructor
 ·exact List.mem_append_left _ (List.mem_append_right _ (List.mem_flatMap.2 ⟨i,List.mem_range.2 hi,by rw [if_pos e];simp⟩))
 ·exact List.mem_append_left _ (List.mem_append_right _ (List.mem_flatMap.2 ⟨i,List.mem_range.2 hi,by rw [if_pos e];simp⟩))
theorem cause_cou {S:Sp} {p:Pp} {i:Nat} (hi:i<S.cs.length):((5,(i:Int),0):Ft)∈causeL S p∧((6,(i:Int),0):Ft)∈causeL S p:=by
 unfold causeL
 constructor
 ·exact List.mem_append_right _ (List.mem_flatMap.2 ⟨i,List.mem_range.2 hi,by simp⟩)
 ·exact List.mem_append_right _ (List.mem_flatMap.2 ⟨i,List.mem_range.2 hi,by simp⟩)
theorem cause_ok {S:Sp} {p:Pp} (hp:p∈allFrom 0 S.rs) {x:Ft} (h:x∈causeL S p):ftOk S x=true:=by
 unfold causeL at h
 rcases List.mem_append.1 h with h | h
 ·rcases List.mem_append.1 h with h | h
  ·simp only [List.mem_cons,List.mem_nil_iff,or_false] at h
   rcases h with rfl | rfl
   ·unfold ftOk;rw [if_pos (by simp)];simpa using hp
   ·unfold ftOk;rw [if_pos (by simp)];simpa using hp
  ·obtain ⟨i,hi,h⟩:=List.mem_flatMap.1 h
   have hi2:=List.mem_range.1 hi
   split at h
   ·simp only [List.mem_cons,List.mem_nil_iff,or_false] at h
    rcases h with rfl | rfl
    ·unfold ftOk;rw [if_neg (by simp),if_pos (by simp)];simp;omega
    ·unfold ftOk;rw [if_neg (by simp),if_pos (by simp)];simp;omega
   ·cases h
 ·obtain ⟨i,hi,h⟩:=List.mem_flatMap.1 h
  have hi2:=List.mem_range.1 hi
  simp only [List.mem_cons,List.mem_nil_iff,or_false] at h
  rcases h with rfl | rfl
  ·unfold ftOk;rw [if_neg (by simp),if_neg (by simp),if_pos (by simp)];simp;omega
  ·unfold ftOk;rw [if_neg (by simp),if_neg (by simp),if_pos (by simp)];simp;omega
theorem played_cong {f g:Th→Int} (h:∀ d k:Int,f (1,d,k)=g (1,d,k)) (d:Int):playedL f d=playedL g d:=by
 unfold playedL
 congr 1
 funext k
 rw [h]
theorem acts_cong {S:Sp} {f g:Th→Int} (h:∀ d k:Int,f (1,d,k)=g (1,d,k)) (hc:∀ i:Nat,i<S.cs.length→f (3,0,(i:Int))=g (3,0,(i:Int))):∀ p,Acts S f p→Acts S g p:=by
 refine act_in (fun d k hd hk => .key d k hd (by rwa [← played_cong h])) (fun i hi hon k hk ok => .cou i hi (by rwa [← hc i hi]) k (by rwa [← played_cong h]) ok) (fun i hi hon ht k hk ok => .thr i hi (by rwa [← hc i hi]) ht k hk ok)
theorem hear_cong {S:Sp} {B:(Th→Int)→Pp→Bool} (hB:SndIs S B) {F G:List Ft} {f:Th→Int} {p:Pp} (h:∀ x∈causeL S p,x∈F↔x∈G):hearB B F f p=hearB B G f p:=by
 have hc:∀ i:Nat,i<S.cs.length→onF F f (3,0,(i:Int))=onF G f (3,0,(i:Int)):=fun i hi=>by
  obtain ⟨h5,h6⟩:=cause_cou (p:=p) hi
  rw [onF_cou,onF_cou]
  simp only [h _ h5,h _ h6]
 have hs:∀ (F G:List Ft),(∀ x∈causeL S p,x∈F↔x∈G)→(∀ i:Nat,i<S.cs.length→onF F f (3,0,(i:Int))=onF G f (3,0,(i:Int)))→Snd S (onF F f) p→Snd S (onF G f) p:=by
  rintro F G h hc ⟨i,hi,hon,key,hA,hk,hpl⟩
  obtain ⟨h3,h4⟩:=cause_stop hi (plays_has hpl)
  refine ⟨i,hi,?_,key,acts_cong (fun d k=>by rw [onF_key,onF_key]) hc _ hA,hk,hpl⟩
  rw [← hon,onF_stop,onF_stop]
  simp only [h _ h3,h _ h4]
 have hb:B (onF F f) p=B (onF G f) p:=by
  rw [Bool.eq_iff_iff,hB,hB]
  exact ⟨hs F G h hc,hs G F (fun x hx=>(h x hx).symm) (fun i hi=>(hc i hi).symm)⟩
 obtain ⟨h1,h2⟩:=cause_pipe S p
 unfold hearB
 rw [hb]
 simp only [h _ h1,h _ h2]
abbrev Tr:=(Th→Int) × List Pp
def Exps (S:Sp) (B:(Th→Int)→Pp→Bool) (F:List Ft) (T:List Tr):Prop:=∀ t∈T,hearL S B F t.1=t.2
theorem fts_perm {F g:List Ft} (hF:F.Pairwise fLt) (hn:g.Nodup) (hs:∀ x∈g,x∈F):(F.filter fun x=>decide (x∈g)).Perm g∧(F.filter fun x=>decide (x∈g)).Pairwise fLt:=by
 have h2:(F.filter fun x=>decide (x∈g)).Pairwise fLt:=hF.filter _
 refine ⟨?_,h2⟩
 refine (List.perm_ext_iff_of_nodup (fts_nodup h2) hn).2 fun x=>?_
 rw [List.mem_filter,decide_eq_true_iff]
 exact ⟨fun h=>h.2,fun h=>⟨hs x h,h⟩⟩
theorem fts_len {l m:List Ft} (h:l.Nodup) (hs:∀ x∈l,x∈m):l.length≤m.length:=by
 induction l generalizing m with
 | nil=>exact Nat.zero_le _
 | cons a l ih =>
  rw [List.nodup_cons] at h
  have ha:=hs a (by simp)
  have h2:=ih h.2 (m:=m.erase a) (fun x hx=>(List.mem_erase_of_ne (fun e=>h.1 (by rw [← e];exact hx))).2 (hs x (by simp [hx])))
  rw [List.length_erase_of_mem ha] at h2
  have:0<m.length:=List.length_pos_of_mem ha
  rw [List.length_cons]
  omega
theorem hear_lack {S:Sp} {B:(Th→Int)→Pp→Bool} (hB:SndIs S B) {g F:List Ft} (hg:∀ x∈g,x∈F) {f:Th→Int} {p:Pp} (h:hearB B g f p≠hearB B F f p):∃ x∈causeL S p,x∈F∧x ∉ g:=by
 refine Classical.byContradiction fun hn=>h (hear_cong hB fun x hx=>⟨hg x,fun hF=>Classical.byContradiction fun hng=>hn ⟨x,hx,hF,hng⟩⟩)
theorem search_all {S:Sp} {B:(Th→Int)→Pp→Bool} (hB:SndIs S B) {T:List Tr} {many:Nat} {V:List Ft→Prop} (hnil:V []) (hV:∀ g,V g→FtsOk S g)
  (hmin:∀ g,FtsOk S g→g.length<many→¬ Exps S B g T)
  (hcl:∀ g,V g→g.length<many→¬ Exps S B g T→∃ t∈T,∃ p∈allFrom 0 S.rs,hearB B g t.1 p≠decide (p∈t.2)∧∀ x∈causeL S p,x ∉ g→opp x ∉ g→∀ m:List Ft,m.Perm (x :: g)→m.Pairwise fLt→V m)
  {F:List Ft} (hF:FtsOk S F) (hl:F.length=many) (hE:Exps S B F T):V F:=by
 have step:∀ n,n≤many→∃ g,V g∧(∀ x∈g,x∈F)∧g.length=n:=by
  intro n
  induction n with
  | zero=>intro _;exact ⟨[],hnil,fun x hx=>(by cases hx),rfl⟩
  | succ n ih =>
   intro hn
   obtain ⟨g,hg,hs,hgl⟩:=ih (by omega)
   have hgo:=hV g hg
   obtain ⟨t,ht,p,hp,hd,hc⟩:=hcl g hg (by omega) (hmin g hgo (by omega))
   have he:decide (p∈t.2)=hearB B F t.1 p:=by
    rw [Bool.eq_iff_iff,decide_eq_true_iff,← hE t ht]
    unfold hearL
    rw [List.mem_filter]
    exact ⟨fun h=>h.2,fun h=>⟨hp,h⟩⟩
   rw [he] at hd
   obtain ⟨x,hx,hxF,hxg⟩:=hear_lack hB hs hd
   have hox:opp x ∉ g:=fun h=>hF.con x hxF (hs _ h)
   have hnd:(x :: g).Nodup:=List.nodup_cons.2 ⟨hxg,fts_nodup hgo.asc⟩
   obtain ⟨h1,h2⟩:=fts_perm (g:=x :: g) hF.asc hnd (fun y hy=>by
    rcases List.mem_cons.1 hy with rfl | hy
    ·exact hxF
    ·exact hs y hy)
   refine ⟨_,hc x hx hxg hox _ h1 h2,fun y hy=>(List.mem_filter.1 hy).1,?_⟩
   rw [h1.length_eq,List.length_cons,hgl]
 obtain ⟨g,hg,hs,hgl⟩:=step many (Nat.le_refl _)
 have hgo:=hV g hg
 have e:g=F:=by
  refine fts_one hgo.asc hF.asc fun x=>⟨hs x,fun hx=>Classical.byContradiction fun hn=>?_⟩
  have h1:=fts_len (l:=x :: g) (m:=F) (List.nodup_cons.2 ⟨hn,fts_nodup hgo.asc⟩) (fun y hy=>by
   rcases List.mem_cons.1 hy with rfl | hy
   ·exact hx
   ·exact hs y hy)
  rw [List.length_cons] at h1
  omega
 rw [← e]
 exact hg
theorem fts_more {S:Sp} {g m:List Ft} (hg:FtsOk S g) {x:Ft} (hx:ftOk S x=true) (ho:opp x ∉ g) (hp:m.Perm (x :: g)) (hm:m.Pairwise fLt):FtsOk S m:=by
 have hmem:∀ y,y∈m↔y=x∨y∈g:=fun y=>(hp.mem_iff).trans List.mem_cons
 refine ⟨hm,fun y hy=>?_,fun y hy hn=>?_⟩
 ·rcases (hmem y).1 hy with rfl | h
  ·exact hx
  ·exact hg.ok y h
 ·rcases (hmem y).1 hy with rfl | h <;> rcases (hmem _).1 hn with h' | h'
  ·have hk:=ftOk_kind hx
   have e:=congrArg Prod.fst h'
   unfold opp at e
   simp only at e
   split at e <;> omega
  ·exact ho h'
  ·rw [← h',opp_opp] at ho
   exact ho h
  ·exact hg.con y h h'
def lexLt:List Ft→List Ft→Prop
 | a :: l,b :: m=>fLt a b∨a=b∧lexLt l m
 | _,_=>False
theorem lex_irr:∀ a,¬ lexLt a a
 | [],h=>h
 | a :: l,h=>by
  rcases h with h | h
  ·exact fLt_irr a h
  ·exact lex_irr l h.2
theorem lex_asy:∀ a b,lexLt a b→¬ lexLt b a
 | [],[],h,_=>h
 | [],_ :: _,h,_=>h
 | _ :: _,[],h,_=>h
 | a :: l,b :: m,h,k=>by
  rcases h with h | ⟨h1,h2⟩ <;> rcases k with k | ⟨k1,k2⟩
  ·exact fLt_asy a b h k
  ·subst k1;exact fLt_irr _ h
  ·subst h1;exact fLt_irr _ k
  ·exact lex_asy l m h2 k2
def SetsP (S:Sp) (B:(Th→Int)→Pp→Bool) (T:List Tr) (many:Nat) (M:List (List Ft)):Prop:=M.Pairwise lexLt∧∀ F,F∈M↔FtsOk S F∧F.length=many∧Exps S B F T
theorem SetsP.one {S:Sp} {B:(Th→Int)→Pp→Bool} {T:List Tr} {many:Nat} {M M':List (List Ft)} (h:SetsP S B T many M) (h':SetsP S B T many M'):M=M':=lt_same lex_irr lex_asy h.1 h'.1 fun F=>(h.2 F).trans (h'.2 F).symm
def LeaP (S:Sp) (B:(Th→Int)→Pp→Bool) (T:List Tr) (most:Nat) (M:List (List Ft)) (e:Int):Prop :=
 (∃ many,many≤most∧(∀ g,FtsOk S g→g.length<many→¬ Exps S B g T)∧∃ N,SetsP S B T many N∧N≠[]∧((N.length≤200∧M=N∧e=0)∨(200<N.length∧M=[]∧e=5))) ∨
 ((∀ g,FtsOk S g→g.length≤most→¬ Exps S B g T)∧M=[]∧e=4)
theorem LeaP.one {S:Sp} {B:(Th→Int)→Pp→Bool} {T:List Tr} {most:Nat} {M M':List (List Ft)} {e e':Int} (h:LeaP S B T most M e) (h':LeaP S B T most M' e'):M=M'∧e=e':=by
 have key:∀ {many N},many≤most→SetsP S B T many N→N≠[]→∃ g,FtsOk S g∧g.length=many∧Exps S B g T:=fun _ hN hne=>by
  obtain ⟨F,N',rfl⟩:=List.exists_cons_of_ne_nil hne
  exact ⟨F,(hN.2 F).1 (by simp)⟩
 rcases h with ⟨k,hk,hmin,N,hN,hne,h⟩ | ⟨hno,rfl,rfl⟩ <;> rcases h' with ⟨k',hk',hmin',N',hN',hne',h'⟩ | ⟨hno',rfl,rfl⟩
 ·obtain ⟨g,g1,g2,g3⟩:=key hk hN hne
  obtain ⟨g',g1',g2',g3'⟩:=key hk' hN' hne'
  have e:k=k':=by
   rcases Nat.lt_trichotomy k k' with q | q | q
   ·exact absurd g3 (hmin' g g1 (by omega))
   ·exact q
   ·exact absurd g3' (hmin g' g1' (by omega))
  subst e
  have e2:=hN.one hN'
  subst e2
  rcases h with ⟨a,rfl,rfl⟩ | ⟨a,rfl,rfl⟩ <;> rcases h' with ⟨a',rfl,rfl⟩ | ⟨a',rfl,rfl⟩
  ·exact ⟨rfl,rfl⟩
  ·omega
  ·omega
  ·exact ⟨rfl,rfl⟩
 ·obtain ⟨g,g1,g2,g3⟩:=key hk hN hne
  exact absurd g3 (hno' g g1 (by omega))
 ·obtain ⟨g,g1,g2,g3⟩:=key hk' hN' hne'
  exact absurd g3 (hno g g1 (by omega))
 ·exact ⟨rfl,rfl⟩
open Go.RowKit
theorem digit_any (c:Int) (w:World) :
    Calls Tryz.prog 162 #[.int .u8 c] w fun e w'=>e = .returned (.bool (digB c))∧w=w':=by
  go_enter Tryz.func162,Tryz.ntmps162
  go_wp2
  all_goals go_ret
  all_goals (refine ⟨ret_bool ?_,rfl⟩;simp [digB, *];try omega)
theorem letter_any (c:Int) (w:World) (h0:0≤c) (h1:c<256) :
    Calls Tryz.prog 161 #[.int .u8 c] w fun e w'=>e = .returned (.bool (letB c))∧w=w':=by
  go_enter Tryz.func161,Tryz.ntmps161
  go_wp2
  all_goals go_ret
  all_goals (rw [← or32 c h0 h1];refine ⟨ret_bool ?_,rfl⟩;simp [*];try omega)
theorem name_any (s:ByteArray) (w:World) (hs:s.size≤maxLen) :
    Calls Tryz.prog 125 #[.string s] w fun e w'=>e = .returned (.bool (nameB (L s)))∧w=w':=by
  unfold maxLen at hs
  go_enter Tryz.func125,Tryz.ntmps125
  go_wp2
  go_loop [3,4,7] (fun _ _ i=>∃ k:Nat,k≤s.size∧i = .int .i64 k∧nameTo s k) (fun _ _ i=>s.size-(intOf i).toNat)
  case atStart=>exact ⟨0,Nat.zero_le _,rfl,nameTo_zero s⟩
  case round =>
    obtain ⟨k,hk,rfl,hto⟩:=hrel
    by_cases hlt:k<s.size
    · have hc0:(0:Int)≤(s[k].toNat:Int):=by omega
      have hc1:=byte_lt s[k]
      go_wp2_with (first | (go_at_call 161;refine (letter_any _ _ hc0 hc1).mono ?_;rintro e w' ⟨rfl,rfl⟩) | (go_at_call 162;refine (digit_any _ _).mono ?_;rintro e w' ⟨rfl,rfl⟩))
      all_goals first
        | (go_ret;exact ⟨ret_bool (by rw [name_bad hlt (by simp [wrdU,wrdB, *] <;> simp_all)]),rfl⟩)
        | (go_round
           case rel=>exact ⟨k+1,by omega,by go_num,nameTo_succ hto hlt (by simp [wrdU,wrdB, *] <;> simp_all) (by simp [*])⟩
           case measure=>simp [intOf];omega)
        | skip
    · have he:=hid (name_end hto (by omega))
      go_wp2
      all_goals (go_ret;exact ⟨ret_bool (by rw [he.out,Bool.eq_iff_iff];simp <;> omega),rfl⟩)
theorem gcd_any (a b:Nat) (w:World) (ha:a≤1000000) (hb:b≤1000000) :
  Calls Tryz.prog 199 #[.int .i64 a,.int .i64 b] w fun e w'=>e = .returned (.int .i64 (Nat.gcd a b))∧Below w.heap.size w w':=by
 go_enter Tryz.func199,Tryz.ntmps199
 go_wp2
 go_loopw [0,1] (fun x y wr=>∃ p q:Nat,p≤1000000∧q≤1000000∧x = .int .i64 p∧y = .int .i64 q∧Nat.gcd p q=Nat.gcd a b∧Below w.heap.size w wr) (fun _ y _=>(intOf y).toNat)
 case atStart=>exact ⟨a,b,ha,hb,rfl,rfl,rfl,Below.refl _ _⟩
 case round =>
  obtain ⟨p,q,hp,hq,rfl,rfl,hg,hB⟩:=hrel
  have HG:=hid hg
  clear hg
  by_cases h0:q=0
  ·subst h0
   go_wp2
   go_ret
   exact ⟨ret_int (by rw [← HG.out];simp),hB⟩
  ·have hn:((q:Int) != 0)=true:=by rw [bne_iff_ne];omega
   have hne:¬ ((q:Int)=0):=by omega
   have e1:(p:Int).tmod (q:Int)=((p % q:Nat):Int):=by rw [Int.tmod_eq_emod_of_nonneg (by omega)];simp
   have hlt:=Nat.mod_lt p (by omega:q > 0)
   go_wp2_with fail
   go_quiet (fail)
   go_wp2
   go_roundw
   case rel=>exact ⟨q,p % q,by omega,by omega,rfl,by first | rfl | go_num,by rw [← HG.out,Nat.gcd_comm p q,Nat.gcd_rec q p,Nat.gcd_comm],below_drewN hB _⟩
   case measure=>simp [intOf];omega
def ValidF (n d:Int):Prop:=1≤d∧d≤15∧1≤n∧n≤64 * d∧Int.gcd n d=1
instance (n d:Int):Decidable (ValidF n d):=by unfold ValidF;infer_instance
theorem valid_no (n d:Int) (w:World) (h:d<1∨(1≤d∧15<d)∨(1≤d∧d≤15∧n<1)∨(1≤d∧d≤15∧1≤n∧64 * d<n)) :
  Calls Tryz.prog 186 #[.agg #[.int .i64 n,.int .i64 d]] w fun e w'=>e = .returned (.bool false)∧Below w.heap.size w w':=by
 rcases h with h | ⟨h1,h⟩ | ⟨h1,h2,h⟩ | ⟨h1,h2,h3,h⟩
 all_goals
  go_enter Tryz.func186,Tryz.ntmps186
  go_wp2
  go_ret
  exact ⟨rfl,(Below.refl _ _).alloc (Nat.le_refl _) _⟩
theorem valid_gcd (n d:Nat) (w:World) (h1:1≤d) (h2:d≤15) (h3:1≤n) (h4:n≤64 * d) :
  Calls Tryz.prog 186 #[.agg #[.int .i64 n,.int .i64 d]] w fun e w'=>e = .returned (.bool ((Nat.gcd n d:Int)==1))∧Below w.heap.size w w':=by
 have g1:(1:Int)≤(d:Int):=by omega
 have g2:(d:Int)≤(15:Int):=by omega
 have g3:(1:Int)≤(n:Int):=by omega
 have g4:(n:Int)≤64 * (d:Int):=by omega
 have m1:n≤1000000:=by omega
 have m2:d≤1000000:=by omega
 go_enter Tryz.func186,Tryz.ntmps186
 go_wp2_with (go_at_call 199;refine (gcd_any n d _ m1 m2).mono ?_;rintro e w' ⟨rfl,hb⟩)
 go_ret
 exact ⟨rfl,((Below.refl _ _).alloc (Nat.le_refl _) _).trans (hb.mono (by simp))⟩
theorem valid_any (n d:Int) (w:World) :
  Calls Tryz.prog 186 #[.agg #[.int .i64 n,.int .i64 d]] w fun e w'=>e = .returned (.bool (decide (ValidF n d)))∧Below w.heap.size w w':=by
 by_cases h:1≤d∧d≤15∧1≤n∧n≤64 * d
 ·obtain ⟨h1,h2,h3,h4⟩:=h
  obtain ⟨a,rfl⟩:=Int.eq_ofNat_of_zero_le (show 0≤n by omega)
  obtain ⟨b,rfl⟩:=Int.eq_ofNat_of_zero_le (show 0≤d by omega)
  refine (valid_gcd a b w (by omega) (by omega) (by omega) (by omega)).mono ?_
  rintro e w' ⟨rfl,hb⟩
  refine ⟨ret_bool ?_,hb⟩
  have hg:Int.gcd (a:Int) (b:Int)=Nat.gcd a b:=rfl
  rw [Bool.eq_iff_iff,decide_eq_true_eq,beq_iff_eq,ValidF,hg]
  omega
 ·refine (valid_no n d w (by omega)).mono ?_
  rintro e w' ⟨rfl,hb⟩
  exact ⟨ret_bool (by rw [eq_comm,decide_eq_false_iff_not];rintro ⟨a,b,c,e,_⟩;exact h ⟨a,b,c,e⟩),hb⟩
theorem itoa_s (n:Int) (s:ByteArray) (hs:L s=Lib.itoa n) (w:World) (h1 : -9223372036854775808≤n) (h2:n≤9223372036854775807) (t:Tabs w) :
  Calls Tryz.prog 187 #[.int .i64 n] w fun e w'=>e = .returned (.string s)∧Below w.heap.size w w' :=
 (itoa_any n w h1 h2 t).mono fun _ _ ⟨he,hb⟩=>⟨by rw [he,mk_of_L hs],hb⟩
theorem held_step {w W w':World} {a:Addr} {v:Value} (hh:W.cell? a=some v∧Below w.heap.size w W) (hb:Below W.heap.size W w'):w'.cell? a=some v∧Below w.heap.size w w' :=
 ⟨(hb.cell (cell_size hh.1)).trans hh.1,hh.2.trans (hb.mono hh.2.size)⟩
theorem held_tabs {w W:World} {a:Addr} {v:Value} (t:Tabs w) (hh:W.cell? a=some v∧Below w.heap.size w W):Tabs W:=t.below hh.2
def partL (r d:Nat):List UInt8:=Lib.itoa r++47 :: Lib.itoa d
def feetQ (q r d:Nat):List UInt8:=if d=1 then Lib.itoa q else if q=0 then partL r d else Lib.itoa q++43 :: partL r d
def feetL (n d:Nat):List UInt8:=feetQ (n / d) (n % d) d
theorem feet_no (n d:Int) (w:World) (h:¬ ValidF n d) :
  Calls Tryz.prog 160 #[.agg #[.int .i64 n,.int .i64 d]] w fun e w'=>e = .returned (.tuple #[.string ⟨#[]⟩,.int .i64 2])∧Below w.heap.size w w':=by
 have hv:=hid (fun w=>valid_any n d w)
 have hd:decide (ValidF n d)=false:=decide_eq_false h
 clear h
 go_enter Tryz.func160,Tryz.ntmps160
 go_wp2_with (go_at_call 186;refine (hv.out _).mono ?_;rw [hd];rintro e w' ⟨rfl,hb⟩)
 go_ret2
 exact ⟨rfl,((Below.refl _ _).alloc (Nat.le_refl _) _).trans (hb.mono (by simp))⟩
theorem feet_yes (n d:Nat) (f:ByteArray) (hf:L f=feetL n d) (w:World) (t:Tabs w) (h:ValidF n d) :
  Calls Tryz.prog 160 #[.agg #[.int .i64 n,.int .i64 d]] w fun e w'=>e = .returned (.tuple #[.string f,.int .i64 0])∧Below w.heap.size w w':=by
 have hv:=hid (fun w=>valid_any n d w)
 have hd:decide (ValidF n d)=true:=decide_eq_true h
 have hd1:1≤d:=by have:=h.1;omega
 have hd2:d≤15:=by have:=h.2.1;omega
 have hn1:n≤960:=by have:=h.2.2.2.1;omega
 clear h
 have hr:n % d≤960:=by have:=Nat.mod_lt n (by omega:d > 0);omega
 have hq:n / d≤960:=by have:=Nat.div_le_self n d;omega
 have e1:(n:Int).tdiv (d:Int)=((n / d:Nat):Int):=by rw [Int.tdiv_eq_ediv_of_nonneg (by omega)];simp
 have e2:(n:Int).tmod (d:Int)=((n % d:Nat):Int):=by rw [Int.tmod_eq_emod_of_nonneg (by omega)];simp
 unfold feetL at hf
 generalize n / d=q at *
 generalize n % d=r at *
 have l1:=itoa_le (r:Int) (by omega) (by omega)
 have l2:=itoa_le (d:Int) (by omega) (by omega)
 have l3:=itoa_le (q:Int) (by omega) (by omega)
 obtain ⟨sr,hsr⟩:=mkL (Lib.itoa (r:Int))
 obtain ⟨sd,hsd⟩:=mkL (Lib.itoa (d:Int))
 obtain ⟨sq,hsq⟩:=mkL (Lib.itoa (q:Int))
 have z1:sr.size≤21:=by rw [size_of_L hsr];exact l1
 have z2:sd.size≤21:=by rw [size_of_L hsd];exact l2
 have z3:sq.size≤21:=by rw [size_of_L hsq];exact l3
 have hne:¬ ((d:Int)=0):=by omega
 have HF:=hid hf
 clear hf
 have cR:=hid (fun w t=>itoa_s r sr hsr w (by omega) (by omega) t)
 have cD:=hid (fun w t=>itoa_s d sd hsd w (by omega) (by omega) t)
 have cQ:=hid (fun w t=>itoa_s q sq hsq w (by omega) (by omega) t)
 have HR:=hid hsr
 have HD:=hid hsd
 have HQ:=hid hsq
 clear hsr hsd hsq l1 l2 l3
 have p1:¬ 9223372036854775807<sr.size+1:=by omega
 have p2:¬ 9223372036854775807<sr.size+1+sd.size:=by omega
 go_enter Tryz.func160,Tryz.ntmps160
 go_wp2_with (go_at_call 186;refine (hv.out _).mono ?_;rw [hd];rintro e w1 ⟨rfl,hb⟩)
 have hbW:Below w.heap.size w w1:=((Below.refl _ w).alloc (Nat.le_refl _) _).trans (hb.mono (by simp))
 have c0:w1.cell? ⟨w.heap.size,0,none⟩=some (.int .i64 n):=(hb.cell (by simp)).trans (by simp)
 have c1:w1.cell? ⟨w.heap.size,1,none⟩=some (.int .i64 d):=(hb.cell (by simp)).trans (by simp)
 have hz:=hb.size
 simp only [World.size_alloc] at hz
 have tw1:=t.below hbW
 clear hb
 go_quiet (fail)
 have hb2:=below_drewN hbW nq
 have c2:(w1.drewN nq).cell? ⟨w.heap.size,1,none⟩=some (.int .i64 d):=c1
 generalize w1.drewN nq=w2 at hb2 c2
 have hz2:=hb2.size
 clear c0 c1 hz tw1 hbW
 go_wp2_with fail
 go_region_held3 (fun w'=>w'.cell? ⟨w.heap.size,1,none⟩=some (.int .i64 d)∧Below w.heap.size w w') (first | exact ⟨c2,hb2.drew⟩ | assumption)
  (first | (go_at_call_of 187 (Value.int IntKind.i64 (r:Int));refine (cR.out _ (by exact held_tabs (a:=⟨w.heap.size,1,none⟩) (v:=.int .i64 d) t (by assumption))).mono ?_;rintro e w' ⟨rfl,hbb⟩;have hn:=held_step (w:=w) (a:=⟨w.heap.size,1,none⟩) (v:=.int .i64 d) (by assumption) hbb;clear hbb) | (go_at_call_of 187 (Value.int IntKind.i64 (d:Int));refine (cD.out _ (by exact held_tabs (a:=⟨w.heap.size,1,none⟩) (v:=.int .i64 d) t (by assumption))).mono ?_;rintro e w' ⟨rfl,hbb⟩;have hn:=held_step (w:=w) (a:=⟨w.heap.size,1,none⟩) (v:=.int .i64 d) (by assumption) hbb;clear hbb))
 obtain ⟨c3,hb3⟩:=hn
 have tw3:=t.below hb3
 have hz3:=hb3.size
 obtain ⟨sp,hsp⟩:∃ sp,sr++⟨#[47]⟩++sd=sp:=⟨_,rfl⟩
 rw [hsp]
 have hP:L sp=partL r d:=by rw [← hsp,L_append,L_append,HR.out,HD.out];simp [partL,L]
 have z4:sp.size≤43:=by rw [size_of_L hP,partL,List.length_append,List.length_cons,← HR.out,← HD.out,L_length,L_length];omega
 have HP:=hid hP
 have p3:¬ 9223372036854775807<sq.size+1:=by omega
 have p4:¬ 9223372036854775807<sq.size+1+sp.size:=by omega
 clear hsp hP p1 p2 z1 z2 cR cD hb2 c2 hz2
 by_cases hd1':d=1
 ·have b1:((d:Int)==1)=true:=by rw [beq_iff_eq];omega
  have H1:=hid hd1'
  clear hd1'
  go_wp2_with (go_at_call 187;refine (cQ.out _ tw3).mono ?_;rintro e w4 ⟨rfl,hb4⟩)
  go_ret2
  exact ⟨ret_tup (eq_of_L (by rw [HF.out,feetQ,if_pos H1.out,HQ.out])) rfl,hb3.trans (hb4.mono hz3)⟩
 ·have b1:((d:Int)==1)=false:=by rw [beq_eq_false_iff_ne];omega
  have H1:=hid hd1'
  clear hd1'
  by_cases hq0:q=0
  ·have b2:((q:Int)==0)=true:=by rw [beq_iff_eq];omega
   have H2:=hid hq0
   clear hq0
   go_wp2
   go_ret2
   exact ⟨ret_tup (eq_of_L (by rw [HF.out,feetQ,if_neg H1.out,if_pos H2.out,HP.out])) rfl,hb3⟩
  ·have b2:((q:Int)==0)=false:=by rw [beq_eq_false_iff_ne];omega
   have H2:=hid hq0
   clear hq0
   go_wp2_with (go_at_call 187;refine (cQ.out _ tw3).mono ?_;rintro e w4 ⟨rfl,hb4⟩)
   go_ret2
   exact ⟨ret_tup (eq_of_L (by rw [HF.out,feetQ,if_neg H1.out,if_neg H2.out,L_append,L_append,HQ.out,HP.out];simp [L])) rfl,hb3.trans (hb4.mono hz3)⟩
end Go.Proofs.YteflhbfgpknabaaGreatDoor
namespace Go.Proofs.YteflhbfgpknabaaGreatDoor
open Go.Lib (hid)
theorem nmE_form {nm:ByteArray} {es:List ByteArray} {n:Int} (h:nameB (L nm)=false):nmE nm es n=6:=by unfold nmE;rw [if_pos h]
theorem nmE_twice {nm e:ByteArray} {es:List ByteArray} {n:Int} (h:nameB (L nm)=true) (he:e∈es) (hl:L e=L nm):nmE nm es n=8:=by
 unfold nmE
 rw [if_neg (by rw [h];decide),if_pos (by rw [← hl];exact List.mem_map_of_mem he)]
theorem nmE_next {nm:ByteArray} {es:List ByteArray} {n:Int} (h:nameB (L nm)=true) (he:∀ e∈es,L e≠L nm):nmE nm es n=n:=by
 unfold nmE
 rw [if_neg (by rw [h];decide),if_neg]
 intro hm
 obtain ⟨e,h1,h2⟩:=List.mem_map.1 hm
 exact he e h1 h2
theorem mem_take_map {α β:Type} {l:List α} {f:α→β} {i k:Nat} (hk:k<i) (hi:i<l.length):f (l[k]'(by omega))∈(l.take i).map f:=by
 refine List.mem_map_of_mem ?_
 rw [List.mem_take_iff_getElem]
 exact ⟨k,by omega,rfl⟩
theorem of_mem_take_map {α β:Type} {l:List α} {f:α→β} {i:Nat} (hi:i<l.length) {y:β} (h:y∈(l.take i).map f):∃ k,∃ hk:k<i,y=f (l[k]'(by omega)):=by
 obtain ⟨x,hx,rfl⟩:=List.mem_map.1 h
 rw [List.mem_take_iff_getElem] at hx
 obtain ⟨k,hk,rfl⟩:=hx
 exact ⟨k,by omega,rfl⟩
theorem errD_is {S:Sp} {i:Nat} (hi:i<S.ds.length):errD S i=nmE S.ds[i].name ((S.ds.take i).map (·.name)) (dvE S.ds[i]):=by
 unfold errD
 rw [List.getElem?_eq_getElem hi]
theorem errD_form {S:Sp} {i:Nat} (hi:i<S.ds.length) (h:nameB (L S.ds[i].name)=false):errD S i=6:=by rw [errD_is hi,nmE_form h]
theorem errD_twice {S:Sp} {i k:Nat} (hi:i<S.ds.length) (h:nameB (L S.ds[i].name)=true) (hk:k<i) (he:L (S.ds[k]'(by omega)).name=L S.ds[i].name):errD S i=8:=by
 rw [errD_is hi,nmE_twice h (mem_take_map (f:=(·.name)) hk hi) he]
theorem errD_next {S:Sp} {i:Nat} (hi:i<S.ds.length) (h:nameB (L S.ds[i].name)=true) (he:∀ k (hk:k<i),L (S.ds[k]'(by omega)).name≠L S.ds[i].name):errD S i=dvE S.ds[i]:=by
 rw [errD_is hi,nmE_next h]
 intro y hy
 obtain ⟨k,hk,rfl⟩:=of_mem_take_map (f:=(·.name)) hi hy
 exact he k hk
theorem errR_is {S:Sp} {i:Nat} (hi:i<S.rs.length):errR S i=nmE S.rs[i].name ((S.rs.take i).map (·.name)) (rkE S.rs[i]):=by
 unfold errR
 rw [List.getElem?_eq_getElem hi]
theorem errR_form {S:Sp} {i:Nat} (hi:i<S.rs.length) (h:nameB (L S.rs[i].name)=false):errR S i=6:=by rw [errR_is hi,nmE_form h]
theorem errR_twice {S:Sp} {i k:Nat} (hi:i<S.rs.length) (h:nameB (L S.rs[i].name)=true) (hk:k<i) (he:L (S.rs[k]'(by omega)).name=L S.rs[i].name):errR S i=8:=by
 rw [errR_is hi,nmE_twice h (mem_take_map (f:=(·.name)) hk hi) he]
theorem errR_next {S:Sp} {i:Nat} (hi:i<S.rs.length) (h:nameB (L S.rs[i].name)=true) (he:∀ k (hk:k<i),L (S.rs[k]'(by omega)).name≠L S.rs[i].name):errR S i=rkE S.rs[i]:=by
 rw [errR_is hi,nmE_next h]
 intro y hy
 obtain ⟨k,hk,rfl⟩:=of_mem_take_map (f:=(·.name)) hi hy
 exact he k hk
theorem errC_is {S:Sp} {i:Nat} (hi:i<S.cs.length):errC S i=nmE S.cs[i].name ((S.cs.take i).map (·.name)) (cpE S S.cs[i]):=by
 unfold errC
 rw [List.getElem?_eq_getElem hi]
theorem errC_form {S:Sp} {i:Nat} (hi:i<S.cs.length) (h:nameB (L S.cs[i].name)=false):errC S i=6:=by rw [errC_is hi,nmE_form h]
theorem errC_twice {S:Sp} {i k:Nat} (hi:i<S.cs.length) (h:nameB (L S.cs[i].name)=true) (hk:k<i) (he:L (S.cs[k]'(by omega)).name=L S.cs[i].name):errC S i=8:=by
 rw [errC_is hi,nmE_twice h (mem_take_map (f:=(·.name)) hk hi) he]
theorem errC_next {S:Sp} {i:Nat} (hi:i<S.cs.length) (h:nameB (L S.cs[i].name)=true) (he:∀ k (hk:k<i),L (S.cs[k]'(by omega)).name≠L S.cs[i].name):errC S i=cpE S S.cs[i]:=by
 rw [errC_is hi,nmE_next h]
 intro y hy
 obtain ⟨k,hk,rfl⟩:=of_mem_take_map (f:=(·.name)) hi hy
 exact he k hk
theorem errS_is {S:Sp} {i:Nat} (hi:i<S.ss.length):errS S i=if nameB (L S.ss[i].name)=false then 6 else if 0≤S.ss[i].div∧S.ss[i].div<S.ds.length then nmE S.ss[i].name (((S.ss.take i).filter fun y=>decide (y.div=S.ss[i].div)).map (·.name)) (stE S.ss[i]) else 4:=by
 unfold errS
 rw [List.getElem?_eq_getElem hi]
theorem errS_form {S:Sp} {i:Nat} (hi:i<S.ss.length) (h:nameB (L S.ss[i].name)=false):errS S i=6:=by rw [errS_is hi,if_pos h]
theorem errS_none {S:Sp} {i:Nat} (hi:i<S.ss.length) (h:nameB (L S.ss[i].name)=true) (hd:¬ (0≤S.ss[i].div∧S.ss[i].div<S.ds.length)):errS S i=4:=by
 rw [errS_is hi,if_neg (by rw [h];decide),if_neg hd]
theorem errS_twice {S:Sp} {i k:Nat} (hi:i<S.ss.length) (h:nameB (L S.ss[i].name)=true) (hd:0≤S.ss[i].div∧S.ss[i].div<S.ds.length) (hk:k<i) (he:L (S.ss[k]'(by omega)).name=L S.ss[i].name) (hv:(S.ss[k]'(by omega)).div=S.ss[i].div):errS S i=8:=by
 rw [errS_is hi,if_neg (by rw [h];decide),if_pos hd]
 refine nmE_twice (e:=(S.ss[k]'(by omega)).name) h (List.mem_map_of_mem ?_) he
 rw [List.mem_filter,List.mem_take_iff_getElem]
 exact ⟨⟨k,by omega,rfl⟩,by simpa using hv⟩
theorem errS_next {S:Sp} {i:Nat} (hi:i<S.ss.length) (h:nameB (L S.ss[i].name)=true) (hd:0≤S.ss[i].div∧S.ss[i].div<S.ds.length) (he:∀ k (hk:k<i),(S.ss[k]'(by omega)).div=S.ss[i].div→L (S.ss[k]'(by omega)).name≠L S.ss[i].name):errS S i=stE S.ss[i]:=by
 rw [errS_is hi,if_neg (by rw [h];decide),if_pos hd,nmE_next h]
 intro y hy
 obtain ⟨x,hx,rfl⟩:=List.mem_map.1 hy
 rw [List.mem_filter,List.mem_take_iff_getElem] at hx
 obtain ⟨⟨k,hk,rfl⟩,h2⟩:=hx
 exact he k (by omega) (by simpa using h2)
theorem errP_is {S:Sp} {x:St} {k:Nat} (hk:k<x.parts.length):errP S x k=ptE S x x.parts[k]:=by
 unfold errP
 rw [List.getElem?_eq_getElem hk]
theorem ptE_is {S:Sp} {x:St} {p:Pt} (hd:x.div.toNat<S.ds.length) (h1:0≤p.rank) (h2:p.rank<S.rs.length):ptE S x p =
  if S.ds[x.div.toNat].lo≤p.lo∧p.hi≤S.ds[x.div.toNat].hi∧p.lo≤p.hi∧-96≤p.shift∧p.shift≤96 then (if (S.rs[p.rank.toNat]'(by omega)).low≤p.lo+p.shift∧p.hi+p.shift<(S.rs[p.rank.toNat]'(by omega)).low+(S.rs[p.rank.toNat]'(by omega)).cnt then 0 else 4) else 7:=by
 unfold ptE
 rw [if_pos ⟨h1,h2⟩,List.getElem?_eq_getElem hd,List.getElem?_eq_getElem (by omega:p.rank.toNat<S.rs.length)]
theorem ptE_none {S:Sp} {x:St} {p:Pt} (h:¬ (0≤p.rank∧p.rank<S.rs.length)):ptE S x p=4:=by unfold ptE;rw [if_neg h]
theorem stopE_bad {S:Sp} {i:Nat} (hi:i<S.ss.length) (h:errS S i≠0):stopE S i=(0,errS S i):=by
 unfold stopE
 rw [List.getElem?_eq_getElem hi]
 exact if_pos h
theorem stopE_part {S:Sp} {i k:Nat} (hi:i<S.ss.length) (h:errS S i=0) (hk:fst0 (errP S S.ss[i]) S.ss[i].parts.length=some k):stopE S i=((k:Int)+1,errP S S.ss[i] k):=by
 unfold stopE
 rw [List.getElem?_eq_getElem hi]
 simp only
 rw [if_neg (by rw [h];decide),hk]
theorem stopE_good {S:Sp} {i:Nat} (hi:i<S.ss.length) (h:errS S i=0) (hk:fst0 (errP S S.ss[i]) S.ss[i].parts.length=none):stopE S i=(0,0):=by
 unfold stopE
 rw [List.getElem?_eq_getElem hi]
 simp only
 rw [if_neg (by rw [h];decide),hk]
end Go.Proofs.YteflhbfgpknabaaGreatDoor
