/-
  A part of the proof: AJ2.
-/
import Derived.Test.YthhfmppealmblaaGreatDoorN11
import Derived.Test.YthhfmppealmblaaGreatDoorN06
namespace Go.Proofs.YthhfmppealmblaaGreatDoor
open Go.RowKit
theorem recF_evR {S:Sp} {l:List Ev} {i:Nat} (hi:i<l.length):recF S l i=evR S (tickB l i) (onV (l.take i)) l[i]:=by
 unfold recF evR
 rw [getD_at hi]
theorem recE_iff {S:Sp} {l:List Ev} (h:(checkP S).2=0):(recE S l).2=0 ↔ l.length≤20000∧∀ j,j<l.length→recF S l j=0:=by
 constructor
 ·intro e
  by_cases hl:20000<l.length
  ·rw [recE_long h hl] at e;cases e
  ·refine ⟨by omega,?_⟩
   cases hf:fst0 (recF S l) l.length with
   | none=>exact fst0_none.1 hf
   | some i =>
    have hi:=fst0_is hf
    rw [recE_at h hl hi.1 hi.2.2 rfl hi.2.1] at e
    exact absurd e hi.2.1
 ·rintro ⟨hl,hp⟩
  rw [recE_good h (by omega) hp]
theorem bin_upto {S:Sp} (h:(checkP S).2=0) {l:List Ev}:∀ {i:Nat},i≤l.length→(∀ j,j<i→recF S l j=0)→Bin (onV (l.take i))
 | 0,_,_=>by rw [List.take_zero];exact bin_zero
 | i+1,hi,hp=>by
  rw [onV_take (by omega)]
  refine bin_on (bin_upto h (by omega) fun j hj=>hp j (by omega)) (ev_placed h ?_)
  have:=hp i (by omega)
  rw [recF_evR (by omega)] at this
  by_cases a:l[i].1<tickB l i∨100000000<l[i].1
  ·rw [evR_tick a] at this;cases this
  ·by_cases b:evE S l[i]=0
   ·exact b
   ·rw [evR_bad a rfl b] at this;exact absurd this b
def chkE (S:Sp) (ls:List (List Ev)):Int:=if (checkP S).2=0 then (if ∀ l∈ls,(recE S l).2=0 then 0 else 6) else (checkP S).2
theorem chkE_sp {S:Sp} {ls:List (List Ev)} {e:Int} (h:(checkP S).2=e) (h0:e≠0):chkE S ls=e:=by unfold chkE;rw [h,if_neg h0]
theorem chkE_bad {S:Sp} {ls:List (List Ev)} (h:(checkP S).2=0) {l:List Ev} (hl:l∈ls) (h6:(recE S l).2≠0):chkE S ls=6:=by
 unfold chkE
 rw [if_pos h,if_neg (fun q=>h6 (q l hl))]
theorem chkE_good {S:Sp} {ls:List (List Ev)} (h:(checkP S).2=0) (hl:∀ l∈ls,(recE S l).2=0):chkE S ls=0:=by
 unfold chkE
 rw [if_pos h,if_pos hl]
theorem chkE_one (S:Sp) (l:List Ev):chkE S [l]=audE S l:=by
 unfold chkE audE
 by_cases h:(checkP S).2=0
 ·rw [if_pos h,if_pos h]
  by_cases q:(recE S l).2=0
  ·rw [if_pos q,if_pos (fun x hx=>by rw [List.mem_singleton.1 hx];exact q)]
  ·rw [if_neg q,if_neg (fun z=>q (z l (List.mem_singleton.2 rfl)))]
 ·rw [if_neg h,if_neg h]
theorem chkE_two (S:Sp) (a b:List Ev):chkE S [a,b]=twE S a b:=by
 unfold chkE twE audE
 by_cases h:(checkP S).2=0
 ·simp only [if_pos h]
  by_cases q:(recE S a).2=0
  ·by_cases r:(recE S b).2=0
   ·rw [if_pos (fun x hx=>by simp only [List.mem_cons,List.not_mem_nil,or_false] at hx;rcases hx with rfl | rfl;exact q;exact r),if_pos q,if_pos rfl,if_pos r]
   ·rw [if_neg (fun z=>r (z b (by simp))),if_pos q,if_pos rfl,if_neg r]
  ·rw [if_neg (fun z=>q (z a (by simp))),if_neg q,if_neg (by decide)]
 ·simp only [if_neg h]
theorem onOk_on {S:Sp} (hc:(checkP S).2=0) {g:Th→Int} (h:OnOk S g) (hb:Bin g) {x:Ev} (hx:evE S x=0):OnOk S (onS g x):=by
 have hg:=spGood hc
 have hb2:=bin_on hb (ev_placed hc hx)
 obtain ⟨a,k,d,n,v⟩:=x
 unfold evE at hx
 simp only at hx
 split at hx
 ·cases hx
 rename_i h1
 split at hx
 ·cases hx
 rename_i h2
 have h3:=fun q=>(show False from absurd (ite_eq_right_iff.1 hx q) (by decide))
 have ht:there S k d n=true:=by simpa using h2
 refine ⟨fun d' k' hne=>?_,fun t ht=>hb2 t (by omega),fun d' n' hne=>?_,fun d' n' hne=>?_⟩
 ·unfold onS at hne
  split at hne
  ·rename_i e
   obtain ⟨e1,e2⟩:=e
   unfold thing at e2
   simp only [Prod.mk.injEq] at e2
   obtain ⟨rfl,rfl,rfl⟩:=e2
   unfold there at ht
   rw [if_pos rfl,decide_eq_true_iff] at ht
   have hk:keyOk S (d,n)=true:=by
    unfold keyOk
    rw [Bool.and_eq_true,Bool.and_eq_true,decide_eq_true_iff,decide_eq_true_iff]
    refine ⟨⟨ht.1,?_⟩,ht.2⟩
    cases e:keyIn S d n with
    | true=>rfl
    | false=>exact absurd (Or.inl ⟨rfl,e⟩) h3
   have:=keyOk_lt hg.ds hg.d hk
   simp only at this
   exact ⟨hk,by omega,by omega,by omega⟩
  ·exact h.key d' k' hne
 ·unfold onS at hne
  split at hne
  ·rename_i e
   obtain ⟨e1,e2⟩:=e
   unfold thing at e2
   simp only [Prod.mk.injEq] at e2
   obtain ⟨rfl,rfl,rfl⟩:=e2
   unfold there at ht
   rw [if_neg (by decide),if_pos rfl,decide_eq_true_iff] at ht
   exact ⟨by omega,ht.1,ht.2⟩
  ·exact h.stop d' n' hne
 ·unfold onS at hne
  split at hne
  ·rename_i e
   obtain ⟨e1,e2⟩:=e
   unfold thing at e2
   simp only [Prod.mk.injEq] at e2
   obtain ⟨rfl,rfl,rfl⟩:=e2
   unfold there at ht
   rw [if_neg (by decide),if_neg (by decide),if_pos rfl,decide_eq_true_iff] at ht
   exact ⟨by omega,ht.1,ht.2⟩
  ·exact h.cou d' n' hne
theorem onOk_upto {S:Sp} (h:(checkP S).2=0) {l:List Ev}:∀ {i:Nat},i≤l.length→(∀ j,j<i→recF S l j=0)→OnOk S (onV (l.take i))
 | 0,_,_=>by rw [List.take_zero];exact onOk_zero S
 | i+1,hi,hp=>by
  rw [onV_take (by omega)]
  refine onOk_on h (onOk_upto h (by omega) fun j hj=>hp j (by omega)) (bin_upto h (by omega) fun j hj=>hp j (by omega)) ?_
  have:=hp i (by omega)
  rw [recF_evR (by omega)] at this
  by_cases a:l[i].1<tickB l i∨100000000<l[i].1
  ·rw [evR_tick a] at this;cases this
  ·by_cases b:evE S l[i]=0
   ·exact b
   ·rw [evR_bad a rfl b] at this;exact absurd this b
end Go.Proofs.YthhfmppealmblaaGreatDoor
