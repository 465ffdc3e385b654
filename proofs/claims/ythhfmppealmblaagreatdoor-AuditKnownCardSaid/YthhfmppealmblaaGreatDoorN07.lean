/-
  A part of the proof: AO.
-/
import Derived.Test.YthhfmppealmblaaGreatDoorN06
namespace Go.Proofs.YthhfmppealmblaaGreatDoor
def OnIx (t:Th) (i:Nat):Prop :=
 (t.1=1∧0≤t.2.1∧t.2.1<6∧0≤t.2.2∧t.2.2<128∧(i:Int)=t.2.1 * 128+t.2.2)∨(t.1=2∧t.2.1=0∧0≤t.2.2∧t.2.2<80∧(i:Int)=768+t.2.2) ∨
 (t.1=3∧t.2.1=0∧0≤t.2.2∧t.2.2<24∧(i:Int)=848+t.2.2)∨(t.1=4∧t.2.1=0∧0≤t.2.2∧t.2.2<4∧(i:Int)=872+t.2.2)
theorem onIx_one {t u:Th} {i:Nat} (h:OnIx t i) (k:OnIx u i):u=t:=by
 obtain ⟨a,b,c⟩:=t
 obtain ⟨a2,b2,c2⟩:=u
 unfold OnIx at h k
 simp only at h k
 have:a2=a∧b2=b∧c2=c:=by omega
 obtain ⟨rfl,rfl,rfl⟩:=this
 rfl
theorem onIx_lt {t:Th} {i:Nat} (h:OnIx t i):i<876:=by
 unfold OnIx at h
 omega
def onCell (t:Th) (v:Int):Value:=if t.1=4 then .int .i64 v else .bool (decide (v=1))
structure OnI (f:Th→Int) (cs:Array Value):Prop where
 size:cs.size=876
 val:∀ t i,OnIx t i→cs[i]?=some (onCell t (f t))
theorem OnI.set {f:Th→Int} {cs:Array Value} (h:OnI f cs) {t:Th} {i:Nat} (ht:OnIx t i) (v:Int):OnI (fun u=>if u=t then v else f u) (cs.setIfInBounds i (onCell t v)):=by
 refine ⟨by simpa using h.size,fun u j hu=>?_⟩
 rw [Array.getElem?_setIfInBounds]
 by_cases e:i=j
 ·subst e
  have e2:=onIx_one ht hu
  subst e2
  rw [if_pos rfl,if_pos (by rw [h.size];exact onIx_lt ht),if_pos rfl]
 ·have e2:u≠t:=fun q=>by
   subst q
   unfold OnIx at ht hu
   omega
  rw [if_neg e,if_neg e2]
  exact h.val u j hu
def Bin (g:Th→Int):Prop:=∀ t,t.1≠4→g t=0∨g t=1
theorem bin_zero:Bin fun _=>0:=fun _ _ => .inl rfl
theorem sp_lens {S:Sp} (h:(checkP S).2=0):S.ds.length≤6∧S.rs.length≤40∧S.ss.length≤80∧S.cs.length≤24:=by
 unfold checkP at h
 split at h
 ·cases h
 ·omega
inductive Placed:Ev→Prop
 | key (a v:Int) (d n:Nat) (hd:d<6) (hn:n<128) (hv:v=0∨v=1):Placed (a,1,d,n,v)
 | stop (a v:Int) (n:Nat) (hn:n<80) (hv:v=0∨v=1):Placed (a,2,0,n,v)
 | coupler (a v:Int) (n:Nat) (hn:n<24) (hv:v=0∨v=1):Placed (a,3,0,n,v)
 | shade (a v:Int) (n:Nat) (hn:n<4):Placed (a,4,0,n,v)
 | mark (a d n v:Int):Placed (a,5,d,n,v)
theorem ev_placed {S:Sp} (h:(checkP S).2=0) {x:Ev} (hx:evE S x=0):Placed x:=by
 obtain ⟨a,k,d,n,v⟩:=x
 obtain ⟨l1,l2,l3,l4⟩:=sp_lens h
 unfold evE at hx
 simp only at hx
 split at hx
 ·cases hx
 ·rename_i h1
  split at hx
  ·cases hx
  ·rename_i h2
   have h3:=fun q=>(show False from absurd (ite_eq_right_iff.1 hx q) (by decide))
   have ht:there S k d n=true:=by simpa using h2
   unfold there at ht
   by_cases k1:k=1
   ·subst k1
    rw [if_pos rfl,decide_eq_true_iff] at ht
    have hk:keyIn S d n=true:=by
     cases e:keyIn S d n with
     | true=>rfl
     | false=>exact absurd (Or.inl ⟨rfl,e⟩) h3
    unfold keyIn at hk
    have hb:d.toNat<S.ds.length:=by omega
    rw [List.getElem?_eq_getElem hb] at hk
    simp only [decide_eq_true_iff] at hk
    have hs:=dv_small h (List.getElem_mem hb)
    have h4:¬ ¬ (0≤v∧v≤if (1:Int)=4 then 127 else 1):=fun q=>h3 (.inr (.inr (.inr q)))
    rw [if_neg (by decide)] at h4
    obtain ⟨d',rfl⟩:=Int.eq_ofNat_of_zero_le ht.1
    obtain ⟨n',rfl⟩:=Int.eq_ofNat_of_zero_le (show 0≤n by omega)
    exact .key a v d' n' (by omega) (by omega) (by omega)
   ·rw [if_neg k1] at ht
    have hd0:k=5∨d=0:=by omega
    by_cases k2:k=2
    ·subst k2
     rw [if_pos rfl,decide_eq_true_iff] at ht
     have h4:¬ ¬ (0≤v∧v≤if (2:Int)=4 then 127 else 1):=fun q=>h3 (.inr (.inr (.inr q)))
     rw [if_neg (by decide)] at h4
     obtain ⟨n',rfl⟩:=Int.eq_ofNat_of_zero_le ht.1
     have:d=0:=by omega
     subst this
     exact .stop a v n' (by omega) (by omega)
    ·rw [if_neg k2] at ht
     by_cases k3:k=3
     ·subst k3
      rw [if_pos rfl,decide_eq_true_iff] at ht
      have h4:¬ ¬ (0≤v∧v≤if (3:Int)=4 then 127 else 1):=fun q=>h3 (.inr (.inr (.inr q)))
      rw [if_neg (by decide)] at h4
      obtain ⟨n',rfl⟩:=Int.eq_ofNat_of_zero_le ht.1
      have:d=0:=by omega
      subst this
      exact .coupler a v n' (by omega) (by omega)
     ·by_cases k4:k=4
      ·subst k4
       have h4:¬ ¬ (0≤n∧n≤3):=fun q=>h3 (.inr (.inl ⟨rfl,q⟩))
       obtain ⟨n',rfl⟩:=Int.eq_ofNat_of_zero_le (show 0≤n by omega)
       have:d=0:=by omega
       subst this
       exact .shade a v n' (by omega)
      ·have:k=5:=by omega
       subst this
       exact .mark a d n v
theorem bin_on {g:Th→Int} (h:Bin g) {x:Ev} (hx:Placed x):Bin (onS g x):=by
 intro t ht
 unfold onS
 split
 ·rename_i e
  cases hx with
  | key _ _ _ _ _ _ hv=>exact hv
  | stop _ _ _ _ hv=>exact hv
  | coupler _ _ _ _ hv=>exact hv
  | shade=>exact absurd (by rw [← e.2];rfl) ht
  | mark=>exact absurd rfl e.1
 ·exact h t ht
theorem onS_set (g:Th→Int) {x:Ev} (h:x.2.1≠5):onS g x=fun u=>if u=thing x then x.2.2.2.2 else g u:=by
 funext u
 unfold onS
 by_cases e:u=thing x
 ·rw [if_pos ⟨h,e.symm⟩,if_pos e]
 ·rw [if_neg (fun q=>e q.2.symm),if_neg e]
theorem onS_mark (g:Th→Int) {x:Ev} (h:x.2.1=5):onS g x=g:=by
 funext u
 unfold onS
 rw [if_neg (fun q=>q.1 h)]
open Go.RowKit
theorem zero_on:Tryz.zeroCells119=(List.replicate 872 (Value.bool false)++List.replicate 4 (Value.int .i64 0)).toArray:=by kernel_rfl
theorem onI_zero:OnI (fun _=>0) Tryz.zeroCells119:=by
 rw [zero_on]
 refine ⟨by rw [List.size_toArray,List.length_append,List.length_replicate,List.length_replicate],fun t i h=>?_⟩
 have hl:=onIx_lt h
 rw [List.getElem?_toArray,List.getElem?_append,List.length_replicate]
 unfold onCell
 unfold OnIx at h
 by_cases c:i<872
 ·rw [if_pos c,List.getElem?_replicate,if_pos c,if_neg (by omega)]
  rfl
 ·rw [if_neg c,List.getElem?_replicate,if_pos (by omega),if_pos (by omega)]
theorem onIx_key {d n:Nat} (hd:d<6) (hn:n<128):OnIx (1,(d:Int),(n:Int)) (d * 128+n):=.inl ⟨rfl,by simp only;omega,by simp only;omega,by simp only;omega,by simp only;omega,by simp only;omega⟩
theorem onIx_stop {n:Nat} (hn:n<80):OnIx (2,0,(n:Int)) (768+n):=.inr (.inl ⟨rfl,rfl,by simp only;omega,by simp only;omega,by simp only;omega⟩)
theorem onIx_coupler {n:Nat} (hn:n<24):OnIx (3,0,(n:Int)) (848+n):=.inr (.inr (.inl ⟨rfl,rfl,by simp only;omega,by simp only;omega,by simp only;omega⟩))
theorem onIx_shade {n:Nat} (hn:n<4):OnIx (4,0,(n:Int)) (872+n):=.inr (.inr (.inr ⟨rfl,rfl,by simp only;omega,by simp only;omega,by simp only;omega⟩))
theorem evE_out {S:Sp} {a k d n v:Int} (h:k<1∨5<k):evE S (a,k,d,n,v)=2:=by
 unfold evE
 rw [if_pos (by simp only;omega)]
theorem evE_div {S:Sp} {a k d n v:Int} (h:k≠1) (hd:d≠0):evE S (a,k,d,n,v)=2:=by
 unfold evE
 rw [if_pos (by simp only;omega)]
theorem evE_mark0 {S:Sp} {a d n v:Int} (hv:v≠0):evE S (a,5,d,n,v)=2:=by
 unfold evE
 rw [if_pos (.inr (.inr (.inr ⟨rfl,hv⟩)))]
theorem evE_stop (S:Sp) (a n v:Int):evE S (a,2,0,n,v)=if 0≤n∧n<(S.ss.length:Int) then (if 0≤v∧v≤1 then 0 else 7) else 4:=by
 unfold evE there
 by_cases h:0≤n∧n<(S.ss.length:Int)
 ·by_cases hv:0≤v∧v≤1
  ·simp [h,hv]
  ·rw [if_pos h,if_neg hv,if_neg (by simp),if_neg (by simp [h]),if_pos (by right;right;right;simp only [show ((2:Int)=4)=False by simp,if_false];exact hv)]
 ·simp [h]
theorem evE_coupler (S:Sp) (a n v:Int):evE S (a,3,0,n,v)=if 0≤n∧n<(S.cs.length:Int) then (if 0≤v∧v≤1 then 0 else 7) else 4:=by
 unfold evE there
 by_cases h:0≤n∧n<(S.cs.length:Int)
 ·by_cases hv:0≤v∧v≤1
  ·simp [h,hv]
  ·rw [if_pos h,if_neg hv,if_neg (by simp),if_neg (by simp [h]),if_pos (by right;right;right;simp only [show ((3:Int)=4)=False by simp,if_false];exact hv)]
 ·simp [h]
theorem evE_shade (S:Sp) (a n v:Int):evE S (a,4,0,n,v)=if 0≤n∧n≤3∧0≤v∧v≤127 then 0 else 7:=by
 unfold evE there
 rw [if_neg (by simp),if_neg (by simp)]
 by_cases h:0≤n∧n≤3∧0≤v∧v≤127
 ·rw [if_pos h]
  simp [h]
 ·rw [if_neg h,if_pos]
  by_cases h1:0≤n∧n≤3
  ·exact .inr (.inr (.inr (fun q=>h ⟨h1.1,h1.2,q.1,by simpa using q.2⟩)))
  ·exact .inr (.inl ⟨rfl,h1⟩)
theorem evE_mark (S:Sp) (a n:Int):evE S (a,5,0,n,0)=if 0≤n∧n≤9999 then 0 else 7:=by
 unfold evE there
 rw [if_neg (by simp),if_neg (by simp)]
 by_cases h:0≤n∧n≤9999
 ·rw [if_pos h]
  simp [h]
 ·rw [if_neg h,if_pos (.inr (.inr (.inl ⟨rfl,h⟩)))]
theorem evE_key0 {S:Sp} {a d n v:Int} (h:¬ (0≤d∧d<(S.ds.length:Int))):evE S (a,1,d,n,v)=4:=by
 unfold evE there
 rw [if_neg (by simp),if_pos (by rw [if_pos rfl,decide_eq_false_iff_not];exact h)]
theorem evE_key (S:Sp) (a:Int) (d:Nat) (n v:Int) (hd:d<S.ds.length):evE S (a,1,(d:Int),n,v)=if S.ds[d].lo≤n∧n≤S.ds[d].hi∧0≤v∧v≤1 then 0 else 7:=by
 unfold evE there
 rw [if_neg (by simp),if_neg (by rw [if_pos rfl];simp only [decide_eq_false_iff_not];omega)]
 have hk:keyIn S (d:Int) n=decide (S.ds[d].lo≤n∧n≤S.ds[d].hi):=by unfold keyIn;rw [Int.toNat_natCast,List.getElem?_eq_getElem hd]
 simp only [hk,decide_eq_false_iff_not]
 by_cases h1:S.ds[d].lo≤n∧n≤S.ds[d].hi
 ·by_cases h2:0≤v∧v≤1
  ·simp [h1,h2]
  ·rw [if_pos (.inr (.inr (.inr (fun q=>h2 ⟨q.1,by simpa using q.2⟩)))),if_neg (fun q=>h2 ⟨q.2.2.1,q.2.2.2⟩)]
 ·rw [if_pos (.inl ⟨by trivial,h1⟩),if_neg (fun q=>h1 ⟨q.1,q.2.1⟩)]
end Go.Proofs.YthhfmppealmblaaGreatDoor
