/-
  A part of the proof: AC, A2, A3, A4, A5, A6.
-/
import Derived.Test.YthhfmppealmblaaGreatDoorN10
import Derived.Test.YthhfmppealmblaaGreatDoorN05
import Derived.Test.YthhfmppealmblaaGreatDoorN06
namespace Go.Proofs.YthhfmppealmblaaGreatDoor
open Go.RowKit
end Go.Proofs.YthhfmppealmblaaGreatDoor
namespace Go.Proofs.YthhfmppealmblaaGreatDoor
def nxt (kd:Int→Int) (k:Int):List Int→Int
 | [] => -1
 | t :: ts=>if kd t=k then nxt kd k ts else t
def flt (kd:Int→Int):Int→List Int→List (Int × Int × Int)
 | _,[]=>[]
 | was,t :: ts=>if kd t=was then flt kd was ts else if kd t=0 then flt kd 0 ts else (kd t,t,nxt kd (kd t) ts) :: flt kd (kd t) ts
inductive Thin (kd:Int→Int):Int→List Int→List Int→Prop
 | nil (was:Int):Thin kd was [] []
 | keep {was t:Int} {ts us:List Int} (h:Thin kd (kd t) ts us):Thin kd was (t :: ts) (t :: us)
 | drop {was t:Int} {ts us:List Int} (e:kd t=was) (h:Thin kd was ts us):Thin kd was (t :: ts) us
theorem nxt_thin {kd:Int→Int} {was:Int} {ts us:List Int} (h:Thin kd was ts us):nxt kd was ts=nxt kd was us:=by
 induction h with
 | nil=>rfl
 | @keep was t ts us h ih =>
  unfold nxt
  by_cases e:kd t=was
  ·rw [if_pos e,if_pos e,← e]
   exact ih
  ·rw [if_neg e,if_neg e]
 | drop e h ih =>
  rw [nxt,if_pos e]
  exact ih
theorem flt_thin {kd:Int→Int} {was:Int} {ts us:List Int} (h:Thin kd was ts us):flt kd was ts=flt kd was us:=by
 induction h with
 | nil=>rfl
 | @keep was t ts us h ih =>
  unfold flt
  by_cases e:kd t=was
  ·rw [if_pos e,if_pos e,← e]
   exact ih
  ·rw [if_neg e,if_neg e]
   by_cases z:kd t=0
   ·rw [if_pos z,if_pos z,← z]
    exact ih
   ·rw [if_neg z,if_neg z,ih,nxt_thin h]
 | drop e h ih =>
  rw [flt,if_pos e]
  exact ih
def Calm (kd:Int→Int) (q:Int→Bool):Int→List Int→Prop
 | _,[]=>True
 | was,t :: ts=>(q t=false→kd t=was)∧Calm kd q (kd t) ts
theorem thin_filter {kd:Int→Int} {q:Int→Bool}:∀ {was:Int} {ts:List Int},Calm kd q was ts→Thin kd was ts (ts.filter q)
 | was,[],_ => .nil was
 | was,t :: ts,h=>by
  cases hq:q t with
  | true =>
   rw [List.filter_cons_of_pos hq]
   exact .keep (thin_filter h.2)
  | false =>
   rw [List.filter_cons_of_neg (by simp [hq])]
   have e:=h.1 hq
   have h2:=h.2
   rw [e] at h2
   exact .drop e (thin_filter h2)
theorem flt_mem {kd:Int→Int} {x:Int × Int × Int}:∀ {was:Int} {ts:List Int},x∈flt kd was ts→x.2.1∈ts∧x.1=kd x.2.1∧x.1≠0
 | was,[],h=>by cases h
 | was,t :: ts,h=>by
  rw [flt] at h
  split at h
  ·have:=flt_mem h
   exact ⟨List.mem_cons_of_mem _ this.1,this.2⟩
  ·split at h
   ·have:=flt_mem h
    exact ⟨List.mem_cons_of_mem _ this.1,this.2⟩
   ·rename_i hz
    rcases List.mem_cons.1 h with e | e
    ·subst e
     exact ⟨List.mem_cons_self,rfl,hz⟩
    ·have:=flt_mem e
     exact ⟨List.mem_cons_of_mem _ this.1,this.2⟩
theorem flt_asc {kd:Int→Int}:∀ {was:Int} {ts:List Int},ts.Pairwise (· < ·)→(flt kd was ts).Pairwise fun a b=>a.2.1<b.2.1
 | was,[],_=>List.Pairwise.nil
 | was,t :: ts,h=>by
  rw [List.pairwise_cons] at h
  rw [flt]
  split
  ·exact flt_asc h.2
  ·split
   ·exact flt_asc h.2
   ·rw [List.pairwise_cons]
    exact ⟨fun x hx=>h.1 _ (flt_mem hx).1,flt_asc h.2⟩
abbrev Fa:=Int × Pp × Int × Int
def faLt (a b:Fa):Prop:=a.2.2.1<b.2.2.1∨a.2.2.1=b.2.2.1∧ppLt a.2.1 b.2.1
def faLe (a b:Fa):Prop:=¬ faLt b a
def faTie (a b:Fa):Prop:=a.2.2.1=b.2.2.1∧a.2.1=b.2.1
theorem faLt_irrefl (a:Fa):¬ faLt a a:=by unfold faLt ppLt;omega
theorem faLt_asymm {a b:Fa} (h:faLt a b):¬ faLt b a:=by unfold faLt ppLt at *;omega
theorem faTie_of {a b:Fa} (h:¬ faLt a b) (k:¬ faLt b a):faTie a b:=by
 unfold faLt ppLt at h k
 have:a.2.1.1=b.2.1.1∧a.2.1.2=b.2.1.2∧a.2.2.1=b.2.2.1:=by omega
 exact ⟨this.2.2,Prod.ext this.1 this.2.1⟩
def faAll (kd:Pp→Int→Int) (all:List Pp) (ts:List Int):List Fa:=all.flatMap fun p=>(flt (kd p) 0 ts).map fun x=>(x.1,p,x.2.1,x.2.2)
theorem lt_same {α:Type} {lt:α→α→Prop} (irr:∀ a,¬ lt a a) (asy:∀ a b,lt a b→¬ lt b a):∀ {l m:List α},l.Pairwise lt→m.Pairwise lt→(∀ n,n∈l ↔ n∈m)→l=m
 | [],[],_,_,_=>rfl
 | [],b :: m,_,_,h=>by have:=(h b).2 (by simp);cases this
 | a :: l,[],_,_,h=>by have:=(h a).1 (by simp);cases this
 | a :: l,b :: m,h1,h2,h=>by
  rw [List.pairwise_cons] at h1 h2
  have e:a=b:=by
   have p:=(h a).1 (by simp)
   have q:=(h b).2 (by simp)
   rw [List.mem_cons] at p q
   rcases p with p | p <;> rcases q with q | q
   ·exact p
   ·exact p
   ·exact q.symm
   ·exact absurd (h1.1 b q) (asy _ _ (h2.1 a p))
  subst e
  rw [lt_same irr asy h1.2 h2.2 fun n=>?_]
  have hn:=h n
  rw [List.mem_cons,List.mem_cons] at hn
  constructor
  ·intro q
   rcases hn.1 (.inr q) with e | e
   ·subst e;exact absurd (h1.1 n q) (irr n)
   ·exact e
  ·intro q
   rcases hn.2 (.inr q) with e | e
   ·subst e;exact absurd (h2.1 n q) (irr n)
   ·exact e
def FaP (E m:List Fa) (c:Int):Prop:=(20000<E.length∧m=[]∧c=5)∨(E.length≤20000∧m.Perm E∧m.Pairwise faLe∧c=0)
theorem faAll_noTie {kd:Pp→Int→Int} {ts:List Int} (ht:ts.Pairwise (· < ·)):∀ {all:List Pp},all.Pairwise ppLt→(faAll kd all ts).Pairwise fun a b=>¬ faTie a b
 | [],_=>List.Pairwise.nil
 | p :: all,h=>by
  rw [List.pairwise_cons] at h
  unfold faAll
  rw [List.flatMap_cons,List.pairwise_append]
  refine ⟨?_,faAll_noTie ht h.2,?_⟩
  ·rw [List.pairwise_map]
   exact (flt_asc ht).imp fun {a b} hab q=>by have:=q.1;simp only at this;omega
  ·intro a ha b hb q
   obtain ⟨x,_,rfl⟩:=List.mem_map.1 ha
   obtain ⟨r,hr,hb2⟩:=List.mem_flatMap.1 hb
   obtain ⟨y,_,rfl⟩:=List.mem_map.1 hb2
   have:=q.2
   simp only at this
   subst this
   exact ppLt_irrefl _ (h.1 _ hr)
theorem strict_of {E m:List Fa} (hn:E.Pairwise fun a b=>¬ faTie a b) (hp:m.Perm E) (hs:m.Pairwise faLe):m.Pairwise faLt:=by
 have h2:m.Pairwise fun a b=>¬ faTie a b:=hp.symm.pairwise hn (fun h q=>h ⟨q.1.symm,q.2.symm⟩)
 refine (hs.and h2).imp ?_
 rintro a b ⟨p,q⟩
 unfold faLe at p
 rcases Classical.em (faLt a b) with r | r
 ·exact r
 ·exact absurd (faTie_of r p) q
theorem FaP.one {E m m':List Fa} {c c':Int} (hn:E.Pairwise fun a b=>¬ faTie a b) (h:FaP E m c) (h':FaP E m' c'):m=m'∧c=c':=by
 rcases h with ⟨a,rfl,rfl⟩ | ⟨a,p,s,rfl⟩ <;> rcases h' with ⟨a',rfl,rfl⟩ | ⟨a',p',s',rfl⟩
 ·exact ⟨rfl,rfl⟩
 ·omega
 ·omega
 ·exact ⟨lt_same faLt_irrefl (fun _ _=>faLt_asymm) (strict_of hn p s) (strict_of hn p' s') (fun n=>p.mem_iff.trans p'.mem_iff.symm),rfl⟩
end Go.Proofs.YthhfmppealmblaaGreatDoor
namespace Go.Proofs.YthhfmppealmblaaGreatDoor
abbrev Cg:=Int × Pp × Int × Int
def kindP (s c:Int):Int:=if 0<s∧c=0 then 1 else if s=0∧0<c then 2 else 0
def headSame (p:Pp) (t:Int):List Cg→Bool
 | []=>false
 | y :: _=>decide (y.2.1=p) && decide (y.1=t)
theorem headSame_cons (p:Pp) (t:Int) (y:Cg) (r:List Cg):headSame p t (y :: r)=(decide (y.2.1=p) && decide (y.1=t)):=rfl
def setTo (o:List Fa) (t:Int):List Fa:=match o.getLast? with
 | none=>o
 | some x=>o.dropLast++[(x.1,x.2.1,x.2.2.1,t)]
theorem setTo_snoc (o:List Fa) (x:Fa) (t:Int):setTo (o++[x]) t=o++[(x.1,x.2.1,x.2.2.1,t)]:=by
 unfold setTo
 rw [List.getLast?_concat,List.dropLast_concat]
def putF (o:List Fa) (k now:Int) (p:Pp) (t:Int):List Fa :=
 if now=k then o else (if k≠0 then setTo o t else o)++(if now≠0 then [(now,p,t,-1)] else [])
def goF:Option Pp→Int→Int→Int→List Fa→List Cg→List Fa
 | _,_,_,_,out,[]=>out
 | pv,s,c,k,out,x :: r =>
  let s':=(if pv=some x.2.1 then s else 0)+x.2.2.1
  let c':=(if pv=some x.2.1 then c else 0)+x.2.2.2
  let k':=if pv=some x.2.1 then k else 0
  if headSame x.2.1 x.1 r then goF (some x.2.1) s' c' k' out r
  else goF (some x.2.1) s' c' (kindP s' c') (putF out k' (kindP s' c') x.2.1 x.1) r
def tkC:List Cg→List Int
 | []=>[]
 | [x]=>[x.1]
 | x :: y :: r=>if y.1=x.1 then tkC (y :: r) else x.1 :: tkC (y :: r)
def sumS (l:List Cg) (t:Int):Int:=l.foldr (fun x n=>(if x.1≤t then x.2.2.1 else 0)+n) 0
def sumC (l:List Cg) (t:Int):Int:=l.foldr (fun x n=>(if x.1≤t then x.2.2.2 else 0)+n) 0
theorem sumS_cons (x:Cg) (l:List Cg) (t:Int):sumS (x :: l) t=(if x.1≤t then x.2.2.1 else 0)+sumS l t:=rfl
theorem sumC_cons (x:Cg) (l:List Cg) (t:Int):sumC (x :: l) t=(if x.1≤t then x.2.2.2 else 0)+sumC l t:=rfl
theorem sum_late {l:List Cg} {t:Int} (h:∀ x∈l,t<x.1):sumS l t=0∧sumC l t=0:=by
 induction l with
 | nil=>exact ⟨rfl,rfl⟩
 | cons x l ih =>
  have h1:=h x (by simp)
  have h2:=ih fun y hy=>h y (by simp [hy])
  rw [sumS_cons,sumC_cons,if_neg (by omega),if_neg (by omega),h2.1,h2.2]
  exact ⟨rfl,rfl⟩
theorem sumS_append (a b:List Cg) (t:Int):sumS (a++b) t=sumS a t+sumS b t:=by
 induction a with
 | nil=>rw [List.nil_append];show _=0+_;omega
 | cons x a ih=>rw [List.cons_append,sumS_cons,sumS_cons,ih];omega
theorem sumC_append (a b:List Cg) (t:Int):sumC (a++b) t=sumC a t+sumC b t:=by
 induction a with
 | nil=>rw [List.nil_append];show _=0+_;omega
 | cons x a ih=>rw [List.cons_append,sumC_cons,sumC_cons,ih];omega
def kdC (s c:Int) (l:List Cg) (t:Int):Int:=kindP (s+sumS l t) (c+sumC l t)
theorem kdC_step {s c:Int} {x:Cg} {r:List Cg} {t:Int} (h:x.1≤t):kdC s c (x :: r) t=kdC (s+x.2.2.1) (c+x.2.2.2) r t:=by
 unfold kdC
 rw [sumS_cons,sumC_cons,if_pos h,if_pos h,Int.add_assoc,Int.add_assoc]
theorem mem_tkC:∀ {l:List Cg} {t:Int},t∈tkC l ↔ ∃ x∈l,x.1=t
 | [],t=>by simp [tkC]
 | [x],t=>by simp [tkC,eq_comm]
 | x :: y :: r,t=>by
  rw [tkC]
  by_cases e:y.1=x.1
  ·rw [if_pos e,mem_tkC]
   constructor
   ·rintro ⟨z,hz,q⟩
    exact ⟨z,List.mem_cons_of_mem _ hz,q⟩
   ·rintro ⟨z,hz,q⟩
    rcases List.mem_cons.1 hz with rfl | hz
    ·exact ⟨y,by simp,by omega⟩
    ·exact ⟨z,hz,q⟩
  ·rw [if_neg e,List.mem_cons,mem_tkC]
   constructor
   ·rintro (q | ⟨z,hz,q⟩)
    ·exact ⟨x,by simp,q.symm⟩
    ·exact ⟨z,List.mem_cons_of_mem _ hz,q⟩
   ·rintro ⟨z,hz,q⟩
    rcases List.mem_cons.1 hz with rfl | hz
    ·exact .inl q.symm
    ·exact .inr ⟨z,hz,q⟩
theorem asc_tkC:∀ {l:List Cg},l.Pairwise (fun a b=>a.1≤b.1)→(tkC l).Pairwise (· < ·)
 | [],_=>List.Pairwise.nil
 | [x],_=>by simp [tkC]
 | x :: y :: r,h=>by
  have h1:=List.pairwise_cons.1 h
  rw [tkC]
  by_cases e:y.1=x.1
  ·rw [if_pos e]
   exact asc_tkC h1.2
  ·rw [if_neg e,List.pairwise_cons]
   refine ⟨fun t ht=>?_,asc_tkC h1.2⟩
   obtain ⟨z,hz,rfl⟩:=mem_tkC.1 ht
   have h2:=h1.1 y (by simp)
   have h3:=List.pairwise_cons.1 h1.2
   rcases List.mem_cons.1 hz with rfl | hz
   ·omega
   ·have:=h3.1 z hz
    omega
theorem nxt_congr {kd kd':Int→Int} {k:Int}:∀ {ts:List Int},(∀ t∈ts,kd t=kd' t)→nxt kd k ts=nxt kd' k ts
 | [],_=>rfl
 | t :: ts,h=>by
  rw [nxt,nxt,h t (by simp),nxt_congr fun u hu=>h u (by simp [hu])]
theorem flt_congr {kd kd':Int→Int}:∀ {was:Int} {ts:List Int},(∀ t∈ts,kd t=kd' t)→flt kd was ts=flt kd' was ts
 | _,[],_=>rfl
 | was,t :: ts,h=>by
  have h2:∀ u∈ts,kd u=kd' u:=fun u hu=>h u (by simp [hu])
  rw [flt,flt,h t (by simp),flt_congr (was:=was) h2,flt_congr (was:=0) h2,flt_congr (was:=kd' t) h2,nxt_congr h2]
def mkF (p:Pp) (l:List (Int × Int × Int)):List Fa:=l.map fun x=>(x.1,p,x.2.1,x.2.2)
def oneF (p:Pp) (kd:Int→Int) (k:Int) (out:List Fa) (ts:List Int):List Fa:=(if k≠0 then setTo out (nxt kd k ts) else out)++mkF p (flt kd k ts)
def OpenL (k:Int) (out:List Fa):Prop:=k≠0→setTo out (-1)=out
theorem oneF_nil {p:Pp} {kd:Int→Int} {k:Int} {out:List Fa} (h:OpenL k out):oneF p kd k out []=out:=by
 unfold oneF
 rw [show flt kd k []=[] from rfl,show mkF p []=[] from rfl,List.append_nil]
 split
 ·rename_i q
  exact h q
 ·rfl
theorem oneF_cons {p:Pp} {kd:Int→Int} {k:Int} {out:List Fa} {t:Int} {ts:List Int}:oneF p kd k out (t :: ts)=oneF p kd (kd t) (putF out k (kd t) p t) ts:=by
 unfold oneF putF
 by_cases e:kd t=k
 ·rw [if_pos e,nxt,if_pos e,flt,if_pos e,e]
 ·rw [if_neg e,nxt,if_neg e,flt,if_neg e]
  by_cases z:kd t=0
  ·rw [if_pos z,if_neg (show ¬ kd t≠0 from fun q=>q z),if_neg (show ¬ kd t≠0 from fun q=>q z),List.append_nil,z]
  ·rw [if_neg z,if_pos z,if_pos z,setTo_snoc]
   simp only [mkF,List.map_cons,List.append_assoc,List.singleton_append]
theorem putF_open (out:List Fa) (k now:Int) (p:Pp) (t:Int) (h:OpenL k out):OpenL now (putF out k now p t):=by
 intro hn
 unfold putF
 by_cases e:now=k
 ·rw [if_pos e]
  exact h (by rw [← e];exact hn)
 ·rw [if_neg e,if_pos hn,setTo_snoc]
theorem headSame_one {p:Pp} {x:Cg}:∀ {r:List Cg},(∀ y∈r,y.2.1=p)→headSame p x.1 r=true→∃ y r',r=y :: r'∧y.1=x.1
 | [],_,h=>by cases h
 | y :: r,_,h=>by
  rw [headSame_cons,Bool.and_eq_true,decide_eq_true_iff,decide_eq_true_iff] at h
  exact ⟨y,r,rfl,h.2⟩
theorem goF_one {p:Pp}:∀ {L:List Cg} {pv:Option Pp} {s c k:Int} {out:List Fa},(∀ x∈L,x.2.1=p)→L.Pairwise (fun a b=>a.1≤b.1)→OpenL k out→pv=some p→goF pv s c k out L=oneF p (kdC s c L) k out (tkC L)
 | [],pv,s,c,k,out,_,_,ho,_=>by
  rw [goF,tkC,oneF_nil ho]
 | x :: r,pv,s,c,k,out,hp,hs,ho,hv=>by
  have hx:=hp x (by simp)
  have hr:∀ y∈r,y.2.1=p:=fun y hy=>hp y (by simp [hy])
  have hs1:=List.pairwise_cons.1 hs
  have hc:∀ t,x.1≤t→kdC s c (x :: r) t=kdC (s+x.2.2.1) (c+x.2.2.2) r t:=fun t ht=>kdC_step ht
  have hge:∀ t∈tkC r,x.1≤t:=by
   intro t ht
   obtain ⟨z,hz,rfl⟩:=mem_tkC.1 ht
   exact hs1.1 z hz
  have hcg:∀ t∈tkC r,kdC (s+x.2.2.1) (c+x.2.2.2) r t=kdC s c (x :: r) t:=fun t ht=>(hc t (hge t ht)).symm
  rw [goF]
  simp only [hv,hx,if_true]
  by_cases h:headSame p x.1 r=true
  ·rw [if_pos h,goF_one hr hs1.2 ho rfl]
   obtain ⟨y,r',rfl,e⟩:=headSame_one hr h
   rw [show tkC (x :: y :: r')=tkC (y :: r') by rw [tkC,if_pos e]]
   unfold oneF
   rw [flt_congr hcg,nxt_congr hcg]
  ·rw [if_neg h]
   have hlate:∀ y∈r,x.1<y.1:=by
    cases r with
    | nil=>intro y hy;cases hy
    | cons y r' =>
     have e:¬ y.1=x.1:=fun e=>h (by rw [headSame_cons,hr y (by simp),decide_eq_true_iff.2 rfl,decide_eq_true_iff.2 e];rfl)
     have h3:=List.pairwise_cons.1 hs1.2
     have h4:=hs1.1 y (by simp)
     intro z hz
     rcases List.mem_cons.1 hz with rfl | hz
     ·omega
     ·have:=h3.1 z hz;omega
   have hk:kdC s c (x :: r) x.1=kindP (s+x.2.2.1) (c+x.2.2.2):=by
    rw [hc _ (Int.le_refl _)]
    unfold kdC
    rw [(sum_late hlate).1,(sum_late hlate).2,Int.add_zero,Int.add_zero]
   have ht:tkC (x :: r)=x.1 :: tkC r:=by
    cases r with
    | nil=>rfl
    | cons y r' =>
     rw [tkC,if_neg]
     have:=hlate y (by simp)
     omega
   rw [ht,oneF_cons,hk,goF_one hr hs1.2 (putF_open _ _ _ _ _ ho) rfl]
   unfold oneF
   rw [flt_congr hcg,nxt_congr hcg]
theorem headSame_append {p:Pp} {t:Int} {r l2:List Cg} (h:∀ y∈l2,y.2.1≠p):headSame p t (r++l2)=headSame p t r:=by
 cases r with
 | nil =>
  cases l2 with
  | nil=>rfl
  | cons y l2 =>
   rw [List.nil_append,headSame_cons,decide_eq_false_iff_not.2 (h y (by simp))]
   rfl
 | cons y r=>rfl
theorem goF_reset {pv:Option Pp} {s c k:Int} {out:List Fa} {l2:List Cg} (h:∀ y∈l2,pv≠some y.2.1):goF pv s c k out l2=goF none 0 0 0 out l2:=by
 cases l2 with
 | nil=>rw [goF,goF]
 | cons y l2 =>
  have e1:¬ pv=some y.2.1:=h y (by simp)
  have e2:¬ (none:Option Pp)=some y.2.1:=fun q=>by cases q
  rw [goF,goF]
  simp only [if_neg e1,if_neg e2]
theorem goF_append {p:Pp} {l2:List Cg} (h2:∀ y∈l2,y.2.1≠p):∀ {L:List Cg} {pv:Option Pp} {s c k:Int} {out:List Fa},(∀ x∈L,x.2.1=p)→(∀ y∈l2,pv≠some y.2.1)→goF pv s c k out (L++l2)=goF none 0 0 0 (goF pv s c k out L) l2
 | [],pv,s,c,k,out,_,hv=>by rw [List.nil_append,goF_reset hv,goF]
 | x :: r,pv,s,c,k,out,hp,hv=>by
  have hx:=hp x (by simp)
  have hr:∀ y∈r,y.2.1=p:=fun y hy=>hp y (by simp [hy])
  have hn:∀ y∈l2,(some x.2.1:Option Pp)≠some y.2.1:=fun y hy q=>h2 y hy ((Option.some.inj q).symm.trans hx)
  rw [List.cons_append,goF,goF]
  have e:headSame x.2.1 x.1 (r++l2)=headSame x.2.1 x.1 r:=headSame_append (by rw [hx];exact h2)
  simp only [e]
  split
  ·exact goF_append h2 hr hn
  ·exact goF_append h2 hr hn
def cgLe (a b:Cg):Prop:=ppLt a.2.1 b.2.1∨a.2.1=b.2.1∧a.1≤b.1
def ofP (p:Pp) (l:List Cg):List Cg:=l.filter fun x=>decide (x.2.1=p)
theorem least_split {p:Pp} {all:List Pp} (ha:∀ q∈all,ppLt p q):∀ {l:List Cg},l.Pairwise cgLe→(∀ x∈l,x.2.1∈p :: all)→l=ofP p l++l.filter (fun x=>decide (x.2.1≠p))
 | [],_,_=>rfl
 | x :: l,hs,hin=>by
  have hs1:=List.pairwise_cons.1 hs
  have ih:=least_split ha hs1.2 (fun y hy=>hin y (by simp [hy]))
  by_cases e:x.2.1=p
  ·unfold ofP
   rw [List.filter_cons_of_pos (by simpa using e),List.filter_cons_of_neg (by simpa using e),List.cons_append]
   exact congrArg (x :: ·) ih
  ·have hall:∀ y∈x :: l,y.2.1≠p:=by
    intro y hy q
    rcases List.mem_cons.1 hy with rfl | hy
    ·exact e q
    ·have h1:x.2.1∈all:=by
      rcases List.mem_cons.1 (hin x (by simp)) with h | h
      ·exact absurd h e
      ·exact h
     have h2:=ha _ h1
     rcases hs1.1 y hy with h3 | h3
     ·rw [q] at h3
      exact ppLt_irrefl _ (ppLt_trans h2 h3)
     ·exact e (h3.1.trans q)
   have e1:ofP p (x :: l)=[]:=by
    unfold ofP
    rw [List.filter_eq_nil_iff]
    intro y hy
    simpa using hall y hy
   have e2:(x :: l).filter (fun x=>decide (x.2.1≠p))=x :: l:=by
    rw [List.filter_eq_self]
    intro y hy
    simpa using hall y hy
   rw [e1,e2,List.nil_append]
theorem ofP_rest {p q:Pp} (h:q≠p) (l:List Cg):ofP q (l.filter fun x=>decide (x.2.1≠p))=ofP q l:=by
 unfold ofP
 rw [List.filter_filter]
 congr 1
 funext x
 by_cases e:x.2.1=q
 ·simp [e,h]
 ·simp [e]
theorem flatMap_same {α β:Type} {f g:α→List β}:∀ {l:List α},(∀ x∈l,f x=g x)→l.flatMap f=l.flatMap g
 | [],_=>rfl
 | x :: l,h=>by rw [List.flatMap_cons,List.flatMap_cons,h x (by simp),flatMap_same fun y hy=>h y (by simp [hy])]
theorem goF_all:∀ {all:List Pp} {l:List Cg} {out:List Fa},all.Pairwise ppLt→l.Pairwise cgLe→(∀ x∈l,x.2.1∈all)→goF none 0 0 0 out l=out++all.flatMap fun p=>mkF p (flt (kdC 0 0 (ofP p l)) 0 (tkC (ofP p l)))
 | [],l,out,_,_,hin=>by
  have:l=[]:=by
   cases l with
   | nil=>rfl
   | cons x l=>exact absurd (hin x (by simp)) (by simp)
  subst this
  rw [goF]
  simp
 | p :: all,l,out,ha,hs,hin=>by
  have ha1:=List.pairwise_cons.1 ha
  have hsp:=least_split ha1.1 hs hin
  have h1:∀ x∈ofP p l,x.2.1=p:=fun x hx=>by simpa using (List.mem_filter.1 hx).2
  have h2:∀ x∈l.filter (fun x=>decide (x.2.1≠p)),x.2.1≠p:=fun x hx=>by simpa using (List.mem_filter.1 hx).2
  have hs2:(l.filter fun x=>decide (x.2.1≠p)).Pairwise cgLe:=hs.filter _
  have hin2:∀ x∈l.filter (fun x=>decide (x.2.1≠p)),x.2.1∈all:=fun x hx=>by
   have h3:=List.mem_filter.1 hx
   rcases List.mem_cons.1 (hin x h3.1) with h | h
   ·exact absurd h (h2 x hx)
   ·exact h
  have hs3:(ofP p l).Pairwise (fun a b=>a.1≤b.1):=by
   have h4:=(hs.filter fun x=>decide (x.2.1=p))
   refine (List.Pairwise.and_mem.1 h4).imp ?_
   rintro a b ⟨ma,mb,h⟩
   rcases h with h | h
   ·rw [h1 a ma,h1 b mb] at h
    exact absurd h (ppLt_irrefl _)
   ·exact h.2
  have hone:goF none 0 0 0 out (ofP p l)=out++mkF p (flt (kdC 0 0 (ofP p l)) 0 (tkC (ofP p l))):=by
   have e:goF none 0 0 0 out (ofP p l)=goF (some p) 0 0 0 out (ofP p l):=by
    cases h:ofP p l with
    | nil=>rw [goF,goF]
    | cons x r =>
     have hx:=h1 x (by rw [h];simp)
     have e1:(some p:Option Pp)=some x.2.1:=by rw [hx]
     have e2:¬ (none:Option Pp)=some x.2.1:=fun q=>by cases q
     rw [goF,goF]
     simp only [if_pos e1,if_neg e2]
   rw [e,goF_one h1 hs3 (fun q=>absurd rfl q) rfl]
   unfold oneF
   rw [if_neg (by simp)]
  rw [List.flatMap_cons,← List.append_assoc,← hone]
  conv=>lhs;rw [hsp]
  rw [goF_append h2 h1 (fun y _ q=>by cases q),goF_all ha1.2 hs2 hin2]
  congr 1
  have:∀ q∈all,mkF q (flt (kdC 0 0 (ofP q (l.filter fun x=>decide (x.2.1≠p)))) 0 (tkC (ofP q (l.filter fun x=>decide (x.2.1≠p)))))=mkF q (flt (kdC 0 0 (ofP q l)) 0 (tkC (ofP q l))):=by
   intro q hq
   have hne:q≠p:=fun e=>by
    subst e
    exact ppLt_irrefl _ (ha1.1 _ hq)
   rw [ofP_rest hne]
  exact flatMap_same this
theorem calm_kdC {L:List Cg} (hin:∀ x∈L,0≤x.1):∀ {ts pre:List Int} {was:Int},(pre++ts).Pairwise (· < ·)→(∀ x∈L,x.1∈pre++ts)→(∀ t,(∀ u∈pre,u≤t)→(∀ u∈ts,t<u)→kdC 0 0 L t=was)→Calm (kdC 0 0 L) (fun t=>decide (∃ x∈L,x.1=t)) was ts
 | [],pre,was,_,_,_=>trivial
 | t :: ts,pre,was,ha,hm,hw=>by
  have ha1:=List.pairwise_append.1 ha
  have ha2:=List.pairwise_cons.1 ha1.2.1
  refine ⟨fun hq=>?_,?_⟩
  ·rw [decide_eq_false_iff_not] at hq
   rw [← hw (t-1) (fun u hu=>by have:=ha1.2.2 u hu t (by simp);omega) (fun u hu=>by
    rcases List.mem_cons.1 hu with rfl | hu
    ·omega
    ·have:=ha2.1 u hu;omega)]
   have hS:∀ {M:List Cg},(∀ x∈M,x.1≠t)→sumS M t=sumS M (t-1)∧sumC M t=sumC M (t-1):=by
    intro M hM
    induction M with
    | nil=>exact ⟨rfl,rfl⟩
    | cons x M ih =>
     have h1:=hM x (by simp)
     have h2:=ih fun y hy=>hM y (by simp [hy])
     rw [sumS_cons,sumS_cons,sumC_cons,sumC_cons,h2.1,h2.2]
     by_cases q:x.1≤t
     ·rw [if_pos q,if_pos q,if_pos (by omega),if_pos (by omega)]
      exact ⟨rfl,rfl⟩
     ·rw [if_neg q,if_neg q,if_neg (by omega),if_neg (by omega)]
      exact ⟨rfl,rfl⟩
   have:=hS (M:=L) fun x hx e=>hq ⟨x,hx,e⟩
   unfold kdC
   rw [this.1,this.2]
  ·refine calm_kdC hin (pre:=pre++[t]) (by rw [List.append_assoc];exact ha) (fun x hx=>by rw [List.append_assoc];exact hm x hx) fun u h1 h2=>?_
   have hS:∀ {M:List Cg},(∀ x∈M,x.1∈pre++t :: ts)→sumS M u=sumS M t∧sumC M u=sumC M t:=by
    intro M hM
    induction M with
    | nil=>exact ⟨rfl,rfl⟩
    | cons x M ih =>
     have h3:=hM x (by simp)
     have h4:=ih fun y hy=>hM y (by simp [hy])
     have h5:=h1 t (by simp)
     have e:x.1≤u ↔ x.1≤t:=by
      rcases List.mem_append.1 h3 with h | h
      ·have:=ha1.2.2 _ h t (by simp);omega
      ·rcases List.mem_cons.1 h with h | h
       ·omega
       ·have:=h2 _ h;have:=ha2.1 _ h;omega
     rw [sumS_cons,sumS_cons,sumC_cons,sumC_cons,h4.1,h4.2]
     by_cases q:x.1≤t
     ·rw [if_pos q,if_pos q,if_pos (by omega),if_pos (by omega)]
      exact ⟨rfl,rfl⟩
     ·rw [if_neg q,if_neg q,if_neg (by omega),if_neg (by omega)]
      exact ⟨rfl,rfl⟩
   have:=hS (M:=L) hm
   unfold kdC
   rw [this.1,this.2]
theorem int_asc_ext {l m:List Int} (hl:l.Pairwise (· < ·)) (hm:m.Pairwise (· < ·)) (h:∀ x,x∈l ↔ x∈m):l=m :=
 lt_same (lt:=fun a b:Int=>a<b) (fun a=>Int.lt_irrefl a) (fun a b h q=>by omega) hl hm h
theorem flt_ticks {L:List Cg} {ts:List Int} (hs:L.Pairwise (fun a b=>a.1≤b.1)) (h0:∀ x∈L,0≤x.1) (ha:ts.Pairwise (· < ·)) (hin:∀ x∈L,x.1∈ts):flt (kdC 0 0 L) 0 (tkC L)=flt (kdC 0 0 L) 0 ts:=by
 have hc:Calm (kdC 0 0 L) (fun t=>decide (∃ x∈L,x.1=t)) 0 ts:=calm_kdC h0 (pre:=[]) (by simpa using ha) (by simpa using hin) fun t _ h2=>by
  have:∀ x∈L,t<x.1:=fun x hx=>h2 _ (hin x hx)
  unfold kdC
  rw [(sum_late this).1,(sum_late this).2]
  rfl
 rw [flt_thin (thin_filter hc)]
 congr 1
 refine int_asc_ext (asc_tkC hs) (ha.filter _) fun t=>?_
 rw [mem_tkC,List.mem_filter,decide_eq_true_iff]
 exact ⟨fun ⟨x,hx,e⟩=>⟨e ▸ hin x hx,x,hx,e⟩,fun h=>h.2⟩
theorem goF_faAll {all:List Pp} {l:List Cg} {ts:List Int} {kd:Pp→Int→Int} (ha:all.Pairwise ppLt) (hs:l.Pairwise cgLe) (hin:∀ x∈l,x.2.1∈all) (h0:∀ x∈l,0≤x.1) (hts:ts.Pairwise (· < ·)) (hti:∀ x∈l,x.1∈ts) (hk:∀ p∈all,∀ t∈ts,kdC 0 0 (ofP p l) t=kd p t) :
  goF none 0 0 0 [] l=faAll kd all ts:=by
 rw [goF_all ha hs hin,List.nil_append]
 unfold faAll
 refine flatMap_same fun p hp=>?_
 have h1:∀ x∈ofP p l,x.2.1=p:=fun x hx=>by simpa using (List.mem_filter.1 hx).2
 have hm:∀ x∈ofP p l,x∈l:=fun x hx=>(List.mem_filter.1 hx).1
 have hs3:(ofP p l).Pairwise (fun a b=>a.1≤b.1):=by
  have h4:=(hs.filter fun x=>decide (x.2.1=p))
  refine (List.Pairwise.and_mem.1 h4).imp ?_
  rintro a b ⟨ma,mb,h⟩
  rcases h with h | h
  ·rw [h1 a ma,h1 b mb] at h
   exact absurd h (ppLt_irrefl _)
  ·exact h.2
 rw [flt_ticks hs3 (fun x hx=>h0 x (hm x hx)) hts (fun x hx=>hti x (hm x hx)),flt_congr (hk p hp)]
 rfl
theorem sum_perm {a b:List Cg} (h:a.Perm b) (t:Int):sumS a t=sumS b t∧sumC a t=sumC b t:=by
 induction h with
 | nil=>exact ⟨rfl,rfl⟩
 | cons x _ ih=>rw [sumS_cons,sumS_cons,sumC_cons,sumC_cons,ih.1,ih.2];exact ⟨rfl,rfl⟩
 | swap x y l =>
  rw [sumS_cons,sumS_cons,sumS_cons,sumS_cons,sumC_cons,sumC_cons,sumC_cons,sumC_cons]
  exact ⟨by omega,by omega⟩
 | trans _ _ h1 h2=>exact ⟨h1.1.trans h2.1,h1.2.trans h2.2⟩
theorem kdC_perm {a b:List Cg} (h:a.Perm b) (p:Pp) (t:Int):kdC 0 0 (ofP p a) t=kdC 0 0 (ofP p b) t:=by
 have:=sum_perm (h.filter fun x=>decide (x.2.1=p)) t
 unfold kdC ofP
 rw [this.1,this.2]
end Go.Proofs.YthhfmppealmblaaGreatDoor
namespace Go.Proofs.YthhfmppealmblaaGreatDoor
def SndIs (S:Sp) (B:(Th→Int)→Pp→Bool):Prop:=∀ f p,B f p=true ↔ Snd S f p
def sndL (S:Sp) (B:(Th→Int)→Pp→Bool) (f:Th→Int):List Pp:=(allFrom 0 S.rs).filter (B f)
def upF (l:List Ev) (t:Int):Th→Int:=onV (l.take (upN l t))
theorem snd_zero {S:Sp} {B:(Th→Int)→Pp→Bool} (hB:SndIs S B) (p:Pp):B (fun _=>0) p=false:=by
 cases h:B (fun _=>0) p with
 | false=>rfl
 | true =>
  obtain ⟨i,hi,hon,_⟩:=(hB _ _).1 h
  exact absurd (show (0:Int)=1 from hon) (by decide)
def momB (l:List Ev) (i:Nat):Bool:=decide (i+1=l.length) || decide ((l.getD i ev0).1<(l.getD (i+1) ev0).1)
def momI (l:List Ev) (n:Nat):List Nat:=(List.range n).filter (momB l)
theorem momI_succ (l:List Ev) (n:Nat):momI l (n+1)=momI l n++if momB l n then [n] else []:=by
 unfold momI
 rw [List.range_succ,List.filter_append]
 cases h:momB l n with
 | true=>rw [List.filter_cons_of_pos (by simpa using h),List.filter_nil];rfl
 | false=>rw [List.filter_cons_of_neg (by simp [h]),List.filter_nil];rfl
def Asc (l:List Ev):Prop:=∀ i j (hi:i<l.length) (hj:j<l.length),i≤j→l[i].1≤l[j].1
theorem RecOk.asc {S:Sp} {l:List Ev} (h:RecOk S l):Asc l:=by
 intro i j hi hj hij
 obtain ⟨d,rfl⟩:∃ d,j=i+d:=⟨j-i,by omega⟩
 clear hij
 induction d with
 | zero=>exact Int.le_refl _
 | succ d ih =>
  have h1:=ih (by omega)
  have h2:=(h.tick (i+d+1) hj).2.2
  rw [tickB_next (by omega)] at h2
  exact Int.le_trans h1 h2
theorem mem_momI {l:List Ev} {n i:Nat}:i∈momI l n ↔ i<n∧momB l i=true:=by
 unfold momI
 rw [List.mem_filter,List.mem_range]
theorem momB_is {l:List Ev} {i:Nat} (hi:i+1<l.length):momB l i=decide (l[i].1<l[i+1].1):=by
 unfold momB
 rw [getD_at (by omega:i<l.length),getD_at hi,decide_eq_false_iff_not.2 (show ¬ i+1=l.length by omega),Bool.false_or]
theorem momB_last {l:List Ev} {i:Nat} (hi:i+1=l.length):momB l i=true:=by
 unfold momB
 rw [decide_eq_true_iff.2 hi,Bool.true_or]
theorem upN_mom {l:List Ev} (ha:Asc l) {i:Nat} (hi:i<l.length) (hm:momB l i=true):upN l l[i].1=i+1:=by
 refine upN_is (by omega) (fun j hj h=>ha j i hj hi (by omega)) fun hn=>?_
 rw [momB_is hn,decide_eq_true_iff] at hm
 omega
theorem upN_cons (x:Ev) (l:List Ev) (t:Int):upN (x :: l) t=if x.1≤t then upN l t+1 else 0:=by
 unfold upN
 by_cases h:x.1≤t
 ·rw [List.takeWhile_cons_of_pos (by simpa using h),if_pos h,List.length_cons]
 ·rw [List.takeWhile_cons_of_neg (by simpa using h),if_neg h,List.length_nil]
theorem upN_pair:∀ {l:List Ev},l.Pairwise (fun a b=>a.1≤b.1)→∀ (t:Int),upN l t≤l.length∧(∀ j (hj:j<l.length),j<upN l t ↔ l[j].1≤t)
 | [],_,t=>⟨Nat.le_refl _,fun j hj=>absurd hj (Nat.not_lt_zero j)⟩
 | x :: l,h,t=>by
  have h1:=List.pairwise_cons.1 h
  obtain ⟨a,b⟩:=upN_pair h1.2 t
  rw [upN_cons]
  by_cases q:x.1≤t
  ·rw [if_pos q]
   refine ⟨by rw [List.length_cons];omega,fun j hj=>?_⟩
   cases j with
   | zero=>simp [q]
   | succ j =>
    have:=b j (by simpa using hj)
    rw [List.getElem_cons_succ,← this]
    omega
  ·rw [if_neg q]
   refine ⟨Nat.zero_le _,fun j hj=>⟨fun h=>absurd h (Nat.not_lt_zero j),fun h=>absurd ?_ q⟩⟩
   cases j with
   | zero=>exact h
   | succ j =>
    rw [List.getElem_cons_succ] at h
    exact Int.le_trans (h1.1 _ (List.getElem_mem _)) h
theorem Asc.pair {l:List Ev} (h:Asc l):l.Pairwise (fun a b=>a.1≤b.1):=List.pairwise_iff_getElem.2 fun i j hi hj hij=>h i j hi hj (Nat.le_of_lt hij)
theorem upN_spec {l:List Ev} (ha:Asc l) (t:Int):upN l t≤l.length∧(∀ j (hj:j<l.length),j<upN l t ↔ l[j].1≤t):=upN_pair ha.pair t
def valAt:Bool→List (Int × Bool)→Int→Bool
 | was,[],_=>was
 | was,(u,b) :: ms,t=>if u≤t then valAt b ms t else was
theorem valAt_none {was:Bool} {ms:List (Int × Bool)} {t:Int} (h:∀ x∈ms,t<x.1):valAt was ms t=was:=by
 cases ms with
 | nil=>rfl
 | cons x ms =>
  rw [valAt,if_neg]
  have:=h x (by simp)
  omega
theorem valAt_some {t u:Int} {b:Bool}:∀ {was:Bool} {ms:List (Int × Bool)},ms.Pairwise (fun x y=>x.1<y.1)→(u,b)∈ms→u≤t→(∀ x∈ms,x.1≤t→x.1≤u)→valAt was ms t=b
 | _,[],_,h,_,_=>by cases h
 | was,(v,c) :: ms,ha,hm,hu,hx=>by
  have ha1:=List.pairwise_cons.1 ha
  rcases List.mem_cons.1 hm with e | hm
  ·cases e
   rw [valAt,if_pos hu]
   refine valAt_none fun x hx2=>?_
   have h1:=ha1.1 x hx2
   simp only at h1
   rcases Int.lt_or_le t x.1 with q | q
   ·exact q
   ·have:=hx x (List.mem_cons_of_mem _ hx2) q
    omega
  ·have h1:=ha1.1 _ hm
   simp only at h1
   rw [valAt,if_pos (by omega)]
   exact valAt_some ha1.2 hm hu fun x hx2=>hx x (List.mem_cons_of_mem _ hx2)
def nB (b:Bool):Int:=if b then 1 else 0
def chP (p:Pp):Bool→List (Int × Bool)→List Cg
 | _,[]=>[]
 | was,(u,b) :: ms=>(if b=was then [] else [(u,p,nB b-nB was,0)])++chP p b ms
theorem mem_chP {p:Pp} {x:Cg}:∀ {was:Bool} {ms:List (Int × Bool)},x∈chP p was ms→x.2.1=p∧(∃ y∈ms,y.1=x.1)∧x.2.2.2=0∧(x.2.2.1=1∨x.2.2.1 = -1)
 | _,[],h=>by cases h
 | was,(u,b) :: ms,h=>by
  rw [chP,List.mem_append] at h
  rcases h with h | h
  ·split at h
   ·cases h
   ·rename_i q
    rw [List.mem_singleton] at h
    subst h
    refine ⟨rfl,⟨(u,b),by simp,rfl⟩,rfl,?_⟩
    cases b <;> cases was <;> simp_all [nB]
  ·obtain ⟨h1,⟨y,hy,e⟩,h3⟩:=mem_chP h
   exact ⟨h1,⟨y,List.mem_cons_of_mem _ hy,e⟩,h3⟩
theorem chP_snoc {p:Pp} {u:Int} {b:Bool}:∀ {was:Bool} {ms:List (Int × Bool)},chP p was (ms++[(u,b)])=chP p was ms++(if b=((ms.getLast?.map (·.2)).getD was) then [] else [(u,p,nB b-nB ((ms.getLast?.map (·.2)).getD was),0)])
 | was,[]=>by rw [List.nil_append,chP,chP,chP,List.append_nil,List.nil_append];rfl
 | was,(v,c) :: ms=>by
  rw [List.cons_append,chP,chP,chP_snoc,List.append_assoc]
  have:(((v,c) :: ms).getLast?.map (·.2)).getD was=(ms.getLast?.map (·.2)).getD c:=by
   cases ms with
   | nil=>rfl
   | cons y ms=>rw [List.getLast?_cons_cons,List.getLast?_eq_some_getLast (List.cons_ne_nil y ms)];rfl
  rw [this]
theorem sumS_chP {p:Pp} {t:Int}:∀ {was:Bool} {ms:List (Int × Bool)},ms.Pairwise (fun x y=>x.1<y.1)→sumS (chP p was ms) t=nB (valAt was ms t)-nB was
 | was,[],_=>by rw [chP,valAt];show 0=_;omega
 | was,(u,b) :: ms,ha=>by
  have ha1:=List.pairwise_cons.1 ha
  rw [chP,sumS_append,sumS_chP ha1.2,valAt]
  by_cases e:b=was
  ·rw [if_pos e,e]
   by_cases q:u≤t
   ·rw [if_pos q];show 0+_=_;omega
   ·rw [if_neg q,valAt_none fun x hx=>by have:=ha1.1 x hx;simp only at this;omega]
    show 0+_=_
    omega
  ·rw [if_neg e,sumS_cons]
   by_cases q:u≤t
   ·rw [if_pos q,if_pos q];show _+0+_=_;simp only;omega
   ·rw [if_neg q,if_neg q,valAt_none fun x hx=>by have:=ha1.1 x hx;simp only at this;omega]
    show 0+0+_=_
    omega
theorem sumC_zero {l:List Cg} {t:Int} (h:∀ x∈l,x.2.2.2=0):sumC l t=0:=by
 induction l with
 | nil=>rfl
 | cons x l ih =>
  rw [sumC_cons,h x (by simp),ih fun y hy=>h y (by simp [hy])]
  split <;> rfl
def momP (B:(Th→Int)→Pp→Bool) (l:List Ev) (p:Pp) (n:Nat):List (Int × Bool):=(momI l n).map fun i=>((l.getD i ev0).1,B (onV (l.take (i+1))) p)
def chL (B:(Th→Int)→Pp→Bool) (l:List Ev) (p:Pp) (n:Nat):List Cg:=chP p false (momP B l p n)
theorem momI_asc (l:List Ev) (n:Nat):(momI l n).Pairwise (· < ·):=List.pairwise_lt_range.filter _
theorem momP_asc {B:(Th→Int)→Pp→Bool} {l:List Ev} (ha:Asc l) (p:Pp):(momP B l p l.length).Pairwise (fun x y=>x.1<y.1):=by
 unfold momP
 rw [List.pairwise_map]
 refine (List.Pairwise.and_mem.1 (momI_asc l l.length)).imp ?_
 rintro a b ⟨hA,hB,h⟩
 obtain ⟨h1,h2⟩:=mem_momI.1 hA
 obtain ⟨h3,_⟩:=mem_momI.1 hB
 rw [momB_is (by omega),decide_eq_true_iff] at h2
 simp only
 rw [getD_at h1,getD_at h3]
 have:=ha (a+1) b (by omega) h3 (by omega)
 omega
theorem momP_val {S:Sp} {B:(Th→Int)→Pp→Bool} (hB:SndIs S B) {l:List Ev} (ha:Asc l) (p:Pp) (t:Int):valAt false (momP B l p l.length) t=B (upF l t) p:=by
 obtain ⟨hle,hx⟩:=upN_spec ha t
 by_cases hz:upN l t=0
 ·have e:B (upF l t) p=false:=by
   unfold upF
   rw [hz]
   exact snd_zero hB p
  rw [e]
  refine valAt_none fun x hx2=>?_
  unfold momP at hx2
  obtain ⟨i,hi,rfl⟩:=List.mem_map.1 hx2
  have h1:=(mem_momI.1 hi).1
  simp only
  rw [getD_at h1]
  rcases Int.lt_or_le t l[i].1 with q | q
  ·exact q
  ·have:=(hx i h1).2 q
   omega
 ·obtain ⟨i,hi⟩:∃ i,upN l t=i+1:=⟨upN l t-1,by omega⟩
  have hil:i<l.length:=by omega
  have hm:momB l i=true:=by
   by_cases e:i+1=l.length
   ·exact momB_last e
   ·rw [momB_is (by omega),decide_eq_true_iff]
    have h1:=(hx i hil).1 (by omega)
    have h2:¬ l[i+1].1≤t:=fun q=>by have:=(hx (i+1) (by omega)).2 q;omega
    omega
  have hu:upF l t=onV (l.take (i+1)):=by unfold upF;rw [hi]
  rw [hu]
  refine valAt_some (u:=l[i].1) (momP_asc ha p) ?_ ((hx i hil).1 (by omega)) fun x hx2 hle2=>?_
  ·unfold momP
   rw [List.mem_map]
   exact ⟨i,mem_momI.2 ⟨hil,hm⟩,by rw [getD_at hil]⟩
  ·unfold momP at hx2
   obtain ⟨j,hj,rfl⟩:=List.mem_map.1 hx2
   have h1:=(mem_momI.1 hj).1
   simp only at hle2 ⊢
   rw [getD_at h1] at hle2 ⊢
   have:=(hx j h1).2 hle2
   exact ha j i h1 hil (by omega)
theorem sumS_chL {S:Sp} {B:(Th→Int)→Pp→Bool} (hB:SndIs S B) {l:List Ev} (ha:Asc l) (p:Pp) (t:Int):sumS (chL B l p l.length) t=nB (B (upF l t) p):=by
 unfold chL
 rw [sumS_chP (momP_asc ha p),momP_val hB ha]
 show _-0=_
 omega
theorem sumC_chL {B:(Th→Int)→Pp→Bool} {l:List Ev} (p:Pp) (n:Nat) (t:Int):sumC (chL B l p n) t=0:=sumC_zero fun _ hx=>(mem_chP hx).2.2.1
abbrev Cl:=Pp × Int × Int
def clB (c:Cl) (p:Pp) (t:Int):Bool:=decide (c.1=p) && decide (c.2.1≤t) && (decide (c.2.2<0) || decide (t<c.2.2))
def clCg (c:Cl):List Cg:=(c.2.1,c.1,0,1) :: if 0≤c.2.2 then [(c.2.2,c.1,0,-1)] else []
theorem ofP_append (p:Pp) (a b:List Cg):ofP p (a++b)=ofP p a++ofP p b:=List.filter_append ..
theorem sum_cl {p:Pp} {t:Int}:∀ {cls:List Cl},(∀ c∈cls,c.2.2<0∨c.2.1<c.2.2)→sumS (ofP p (cls.flatMap clCg)) t=0∧sumC (ofP p (cls.flatMap clCg)) t=((cls.filter fun c=>clB c p t).length:Int)
 | [],_=>⟨rfl,rfl⟩
 | c :: cls,h=>by
  have h1:=h c (by simp)
  have ih:=sum_cl (p:=p) (t:=t) (cls:=cls) fun y hy=>h y (List.mem_cons_of_mem _ hy)
  rw [List.flatMap_cons,ofP_append,sumS_append,sumC_append,ih.1,ih.2]
  have key:sumS (ofP p (clCg c)) t=0∧sumC (ofP p (clCg c)) t=if clB c p t then 1 else 0:=by
   unfold ofP clCg clB
   by_cases e:c.1=p
   ·rw [List.filter_cons_of_pos (by simpa using e)]
    by_cases q:0≤c.2.2
    ·rw [if_pos q,List.filter_cons_of_pos (by simpa using e),List.filter_nil]
     rw [sumS_cons,sumS_cons,sumC_cons,sumC_cons]
     simp only [sumS,sumC,List.foldr_nil,e,decide_true,Bool.true_and]
     by_cases q1:c.2.1≤t
     ·by_cases q2:c.2.2≤t
      ·have q3:¬ t<c.2.2:=by omega
       have q4:¬ c.2.2<0:=by omega
       simp [q1,q2,q3,q4]
      ·have q3:t<c.2.2:=by omega
       simp [q1,q2,q3]
     ·have q2:¬ c.2.2≤t:=by omega
      simp [q1,q2]
    ·rw [if_neg q,List.filter_nil,sumS_cons,sumC_cons]
     have q4:c.2.2<0:=by omega
     by_cases q1:c.2.1≤t
     ·simp [q1,q4,e,sumS,sumC]
     ·simp [q1,e,sumS,sumC]
   ·rw [List.filter_cons_of_neg (by simpa using e)]
    by_cases q:0≤c.2.2
    ·rw [if_pos q,List.filter_cons_of_neg (by simpa using e),List.filter_nil]
     simp [e,sumS,sumC]
    ·rw [if_neg q,List.filter_nil]
     simp [e,sumS,sumC]
  rw [key.1,key.2]
  refine ⟨by omega,?_⟩
  by_cases q:clB c p t=true
  ·rw [if_pos q,List.filter_cons_of_pos (by exact q),List.length_cons]
   push_cast
   omega
  ·rw [if_neg q,List.filter_cons_of_neg (by exact q)]
   omega
def kdRef (a b:Bool):Int:=if a && !b then 1 else if b && !a then 2 else 0
theorem kindP_ref (a:Bool) (n:Nat):kindP (nB a) (n:Int)=kdRef a (decide (0<n)):=by
 unfold kindP kdRef nB
 cases a <;> by_cases q:0<n <;> simp [q] <;> omega
theorem any_count {α:Type} (q:α→Bool) (l:List α):decide (0<(l.filter q).length)=l.any q:=by
 rw [Bool.eq_iff_iff,decide_eq_true_iff,List.any_eq_true]
 constructor
 ·intro h
  obtain ⟨x,hx⟩:=List.exists_mem_of_length_pos h
  exact ⟨x,(List.mem_filter.1 hx).1,(List.mem_filter.1 hx).2⟩
 ·rintro ⟨x,hx,hq⟩
  exact List.length_pos_of_mem (List.mem_filter.2 ⟨hx,hq⟩)
def ChgOf (B:(Th→Int)→Pp→Bool) (l:List Ev) (out:List Cg):Prop:=∀ p,ofP p out=chL B l p l.length
def kdCl (B:(Th→Int)→Pp→Bool) (l:List Ev) (cls:List Cl) (p:Pp) (t:Int):Int:=kdRef (B (upF l t) p) (cls.any fun c=>clB c p t)
def kdTw (B:(Th→Int)→Pp→Bool) (a b:List Ev) (p:Pp) (t:Int):Int:=kdRef (B (upF a t) p) (B (upF b t) p)
theorem kdC_cl {S:Sp} {B:(Th→Int)→Pp→Bool} (hB:SndIs S B) {l:List Ev} (ha:Asc l) {cls:List Cl} (hc:∀ c∈cls,c.2.2<0∨c.2.1<c.2.2) {out:List Cg} (ho:ChgOf B l out) (p:Pp) (t:Int):kdC 0 0 (ofP p (out++cls.flatMap clCg)) t=kdCl B l cls p t:=by
 have h:=sum_cl (p:=p) (t:=t) hc
 unfold kdC
 rw [ofP_append,ho p,sumS_append,sumC_append,sumS_chL hB ha,sumC_chL,h.1,h.2,Int.add_zero,Int.zero_add,Int.zero_add,Int.zero_add,kindP_ref,any_count]
 rfl
def toCl (x:Cg):Cg:=(x.1,x.2.1,0,x.2.2.1)
theorem ofP_toCl (p:Pp) (l:List Cg):ofP p (l.map toCl)=(ofP p l).map toCl:=by
 unfold ofP
 rw [List.filter_map]
 rfl
theorem sum_toCl (l:List Cg) (t:Int):sumS (l.map toCl) t=0∧sumC (l.map toCl) t=sumS l t:=by
 induction l with
 | nil=>exact ⟨rfl,rfl⟩
 | cons x l ih =>
  rw [List.map_cons,sumS_cons,sumC_cons,sumS_cons,ih.1,ih.2]
  exact ⟨by show (if x.1≤t then 0 else 0)+0=0;split <;> rfl,rfl⟩
theorem kdC_tw {S:Sp} {B:(Th→Int)→Pp→Bool} (hB:SndIs S B) {a b:List Ev} (ha:Asc a) (hb:Asc b) {out out2:List Cg} (ho:ChgOf B a out) (ho2:ChgOf B b out2) (p:Pp) (t:Int):kdC 0 0 (ofP p (out++out2.map toCl)) t=kdTw B a b p t:=by
 have h:=sum_toCl (ofP p out2) t
 unfold kdC
 rw [ofP_append,ofP_toCl,ho p,ho2 p] at *
 rw [sumS_append,sumC_append,sumS_chL hB ha,sumC_chL,h.1,h.2,sumS_chL hB hb,Int.add_zero,Int.zero_add,Int.zero_add,Int.zero_add]
 unfold kdTw
 cases B (upF b t) p with
 | true=>exact (kindP_ref _ 1).trans (by rfl)
 | false=>exact (kindP_ref _ 0).trans (by rfl)
end Go.Proofs.YthhfmppealmblaaGreatDoor
namespace Go.Proofs.YthhfmppealmblaaGreatDoor
def putT:List Int→Int→List Int
 | [],t=>[t]
 | a :: r,t=>if a<t then a :: putT r t else if a=t then a :: r else t :: a :: r
theorem mem_putT {t u:Int}:∀ {l:List Int},u∈putT l t ↔ u=t∨u∈l
 | []=>by simp [putT]
 | a :: r=>by
  rw [putT]
  split
  ·rw [List.mem_cons,mem_putT,List.mem_cons]
   exact ⟨fun h=>by rcases h with h | h | h;exact .inr (.inl h);exact .inl h;exact .inr (.inr h),fun h=>by rcases h with h | h | h;exact .inr (.inl h);exact .inl h;exact .inr (.inr h)⟩
  ·split
   ·rename_i e
    rw [List.mem_cons]
    exact ⟨fun h => .inr h,fun h=>by rcases h with h | h;exact .inl (h.trans e.symm);exact h⟩
   ·rw [List.mem_cons,List.mem_cons]
theorem asc_putT {t:Int}:∀ {l:List Int},l.Pairwise (· < ·)→(putT l t).Pairwise (· < ·)
 | [],_=>by simp [putT]
 | a :: r,h=>by
  have h1:=List.pairwise_cons.1 h
  rw [putT]
  split
  ·rename_i hlt
   rw [List.pairwise_cons]
   refine ⟨fun x hx=>?_,asc_putT h1.2⟩
   rcases mem_putT.1 hx with rfl | hx
   ·exact hlt
   ·exact h1.1 x hx
  ·split
   ·exact h
   ·rw [List.pairwise_cons]
    refine ⟨fun x hx=>?_,h⟩
    rcases List.mem_cons.1 hx with rfl | hx
    ·omega
    ·have:=h1.1 x hx
     omega
def ticksL (ts:List Int) (l:List Ev):List Int:=l.foldl (fun ts x=>putT ts x.1) ts
theorem mem_ticksL {u:Int}:∀ {l:List Ev} {ts:List Int},u∈ticksL ts l ↔ u∈ts∨∃ x∈l,x.1=u
 | [],ts=>by simp [ticksL]
 | x :: l,ts=>by
  show u∈ticksL (putT ts x.1) l ↔ _
  rw [mem_ticksL,mem_putT]
  constructor
  ·rintro ((h | h) | ⟨y,hy,e⟩)
   ·exact .inr ⟨x,by simp,h.symm⟩
   ·exact .inl h
   ·exact .inr ⟨y,List.mem_cons_of_mem _ hy,e⟩
  ·rintro (h | ⟨y,hy,e⟩)
   ·exact .inl (.inr h)
   ·rcases List.mem_cons.1 hy with rfl | hy
    ·exact .inl (.inl e.symm)
    ·exact .inr ⟨y,hy,e⟩
theorem asc_ticksL:∀ {l:List Ev} {ts:List Int},ts.Pairwise (· < ·)→(ticksL ts l).Pairwise (· < ·)
 | [],_,h=>h
 | x :: l,ts,h=>asc_ticksL (l:=l) (ts:=putT ts x.1) (asc_putT h)
def clPut (ts:List Int) (c:Cl):List Int:=if 0≤c.2.2 then putT (putT ts c.2.1) c.2.2 else putT ts c.2.1
def ticksC (ts:List Int) (cls:List Cl):List Int:=cls.foldl clPut ts
theorem mem_clPut {u:Int} {ts:List Int} {c:Cl}:u∈clPut ts c ↔ u∈ts∨u=c.2.1∨0≤c.2.2∧u=c.2.2:=by
 unfold clPut
 by_cases q:0≤c.2.2
 ·rw [if_pos q,mem_putT,mem_putT]
  exact ⟨fun h=>by rcases h with h | h | h;exact .inr (.inr ⟨q,h⟩);exact .inr (.inl h);exact .inl h,fun h=>by rcases h with h | h | h;exact .inr (.inr h);exact .inr (.inl h);exact .inl h.2⟩
 ·rw [if_neg q,mem_putT]
  exact ⟨fun h=>by rcases h with h | h;exact .inr (.inl h);exact .inl h,fun h=>by rcases h with h | h | h;exact .inr h;exact .inl h;exact absurd h.1 q⟩
theorem mem_ticksC {u:Int}:∀ {cls:List Cl} {ts:List Int},u∈ticksC ts cls ↔ u∈ts∨∃ c∈cls,u=c.2.1∨0≤c.2.2∧u=c.2.2
 | [],ts=>by simp [ticksC]
 | c :: cls,ts=>by
  show u∈ticksC (clPut ts c) cls ↔ _
  rw [mem_ticksC,mem_clPut]
  constructor
  ·rintro ((h | h) | ⟨y,hy,e⟩)
   ·exact .inl h
   ·exact .inr ⟨c,by simp,h⟩
   ·exact .inr ⟨y,List.mem_cons_of_mem _ hy,e⟩
  ·rintro (h | ⟨y,hy,e⟩)
   ·exact .inl (.inl h)
   ·rcases List.mem_cons.1 hy with rfl | hy
    ·exact .inl (.inr e)
    ·exact .inr ⟨y,hy,e⟩
theorem asc_clPut {ts:List Int} {c:Cl} (h:ts.Pairwise (· < ·)):(clPut ts c).Pairwise (· < ·):=by
 unfold clPut
 split
 ·exact asc_putT (asc_putT h)
 ·exact asc_putT h
theorem asc_ticksC:∀ {cls:List Cl} {ts:List Int},ts.Pairwise (· < ·)→(ticksC ts cls).Pairwise (· < ·)
 | [],_,h=>h
 | c :: cls,ts,h=>asc_ticksC (cls:=cls) (ts:=clPut ts c) (asc_clPut h)
def clE (S:Sp) (c:Cl):Int:=if c.1∈allFrom 0 S.rs then (if 0≤c.2.1∧c.2.1≤100000000∧(c.2.2 = -1∨c.2.1<c.2.2∧c.2.2≤100000000) then 0 else 7) else 4
def audE (S:Sp) (l:List Ev):Int:=if (checkP S).2=0 then (if (recE S l).2=0 then 0 else 6) else (checkP S).2
def cl0:Cl:=((0,0),0,0)
def clsF (S:Sp) (cls:List Cl) (i:Nat):Int:=clE S (cls.getD i cl0)
def clsE (S:Sp) (l:List Ev) (cls:List Cl):Int:=if audE S l=0 then (if 20000<cls.length then 3 else match fst0 (clsF S cls) cls.length with
 | some i=>clsF S cls i
 | none=>0) else audE S l
theorem audE_ok {S:Sp} {l:List Ev} (h:audE S l=0):RecOk S l:=by
 unfold audE at h
 split at h
 ·split at h
  ·rename_i q
   exact recE_ok q
  ·cases h
 ·rename_i q
  exact absurd h q
theorem clsE_ok {S:Sp} {l:List Ev} {cls:List Cl} (h:clsE S l cls=0):RecOk S l∧cls.length≤20000∧∀ c∈cls,clE S c=0:=by
 unfold clsE at h
 split at h
 ·rename_i q
  split at h
  ·cases h
  ·rename_i q2
   cases hf:fst0 (clsF S cls) cls.length with
   | some i =>
    rw [hf] at h
    exact absurd h (fst0_is hf).2.1
   | none =>
    refine ⟨audE_ok q,by omega,fun c hc=>?_⟩
    obtain ⟨i,hi,rfl⟩:=List.getElem_of_mem hc
    have:=fst0_none.1 hf i hi
    unfold clsF at this
    rwa [getD_at hi] at this
 ·rename_i q
  exact absurd h q
def faCl (S:Sp) (B:(Th→Int)→Pp→Bool) (l:List Ev) (cls:List Cl):List Fa:=faAll (kdCl B l cls) (allFrom 0 S.rs) (ticksC (ticksL [] l) cls)
def faTw (S:Sp) (B:(Th→Int)→Pp→Bool) (a b:List Ev):List Fa:=faAll (kdTw B a b) (allFrom 0 S.rs) (ticksL (ticksL [] a) b)
def ClP (S:Sp) (B:(Th→Int)→Pp→Bool) (l:List Ev) (cls:List Cl) (m:List Fa) (c:Int):Prop:=(clsE S l cls≠0∧m=[]∧c=clsE S l cls)∨(clsE S l cls=0∧FaP (faCl S B l cls) m c)
theorem ClP.one {S:Sp} {B:(Th→Int)→Pp→Bool} {l:List Ev} {cls:List Cl} {m m':List Fa} {c c':Int} (h:ClP S B l cls m c) (h':ClP S B l cls m' c'):m=m'∧c=c':=by
 rcases h with ⟨a,rfl,rfl⟩ | ⟨a,h⟩ <;> rcases h' with ⟨a',rfl,rfl⟩ | ⟨a',h'⟩
 ·exact ⟨rfl,rfl⟩
 ·exact absurd a' a
 ·exact absurd a a'
 ·exact FaP.one (faAll_noTie (asc_ticksC (asc_ticksL List.Pairwise.nil)) (asc_allFrom _ _)) h h'
def twE (S:Sp) (a b:List Ev):Int:=if audE S a=0 then audE S b else audE S a
def TwP (S:Sp) (B:(Th→Int)→Pp→Bool) (a b:List Ev) (m:List Fa) (c:Int):Prop:=(twE S a b≠0∧m=[]∧c=twE S a b)∨(twE S a b=0∧FaP (faTw S B a b) m c)
theorem TwP.one {S:Sp} {B:(Th→Int)→Pp→Bool} {a b:List Ev} {m m':List Fa} {c c':Int} (h:TwP S B a b m c) (h':TwP S B a b m' c'):m=m'∧c=c':=by
 rcases h with ⟨x,rfl,rfl⟩ | ⟨x,h⟩ <;> rcases h' with ⟨x',rfl,rfl⟩ | ⟨x',h'⟩
 ·exact ⟨rfl,rfl⟩
 ·exact absurd x' x
 ·exact absurd x x'
 ·exact FaP.one (faAll_noTie (asc_ticksL (asc_ticksL List.Pairwise.nil)) (asc_allFrom _ _)) h h'
theorem clE_to {S:Sp} {c:Cl} (h:clE S c=0):c.1∈allFrom 0 S.rs∧0≤c.2.1∧c.2.1≤100000000∧(c.2.2 = -1∨c.2.1<c.2.2∧c.2.2≤100000000):=by
 unfold clE at h
 split at h
 ·rename_i q
  split at h
  ·rename_i q2
   exact ⟨q,q2⟩
  ·cases h
 ·cases h
theorem snd_all {S:Sp} (g:∀ x∈S.ss,∀ key,∀ p∈playsL x key,p∈allFrom 0 S.rs) {f:Th→Int} {p:Pp} (h:Snd S f p):p∈allFrom 0 S.rs:=by
 obtain ⟨i,hi,_,key,_,_,hp⟩:=h
 exact g _ (List.getElem_mem hi) key p (mem_playsL.2 hp)
theorem chg_all {S:Sp} {B:(Th→Int)→Pp→Bool} (hB:SndIs S B) (g:∀ x∈S.ss,∀ key,∀ p∈playsL x key,p∈allFrom 0 S.rs) {l:List Ev} {out:List Cg} (ho:ChgOf B l out) {x:Cg} (hx:x∈out):x.2.1∈allFrom 0 S.rs∧(∃ y∈l,y.1=x.1)∧x.2.2.2=0∧(x.2.2.1=1∨x.2.2.1 = -1):=by
 have h1:x∈ofP x.2.1 out:=List.mem_filter.2 ⟨hx,by simp⟩
 rw [ho x.2.1] at h1
 obtain ⟨_,⟨y,hy,e⟩,h3⟩:=mem_chP h1
 have hin:x.2.1∈allFrom 0 S.rs:=by
  have hex:∃ z∈momP B l x.2.1 l.length,z.2=true:=by
   rcases Classical.em (∃ z∈momP B l x.2.1 l.length,z.2=true) with h | h
   ·exact h
   ·exfalso
    have:∀ ms:List (Int × Bool),(∀ z∈ms,z.2=false)→chP x.2.1 false ms=[]:=by
     intro ms
     induction ms with
     | nil=>intro _;rfl
     | cons z ms ih =>
      intro hz
      obtain ⟨u,b⟩:=z
      have:=hz (u,b) (by simp)
      simp only at this
      subst this
      rw [chP,if_pos rfl,List.nil_append]
      exact ih fun z' hz'=>hz z' (by simp [hz'])
    unfold chL at h1
    rw [this _ fun z hz=>by
     cases e:z.2 with
     | false=>rfl
     | true=>exact absurd ⟨z,hz,e⟩ h] at h1
    cases h1
  obtain ⟨z,hz,e⟩:=hex
  unfold momP at hz
  obtain ⟨i,_,rfl⟩:=List.mem_map.1 hz
  exact snd_all g ((hB _ _).1 e)
 refine ⟨hin,?_,h3⟩
 unfold momP at hy
 obtain ⟨i,hi,rfl⟩:=List.mem_map.1 hy
 have hil:=(mem_momI.1 hi).1
 refine ⟨l[i],List.getElem_mem hil,?_⟩
 rw [← e]
 simp only
 rw [getD_at hil]
theorem RecOk.nonneg {S:Sp} {l:List Ev} (h:RecOk S l) {x:Ev} (hx:x∈l):0≤x.1∧x.1≤100000000:=by
 obtain ⟨i,hi,rfl⟩:=List.getElem_of_mem hx
 exact ⟨(h.tick i hi).1,(h.tick i hi).2.1⟩
theorem goF_cl {S:Sp} {B:(Th→Int)→Pp→Bool} (hB:SndIs S B) (g:∀ x∈S.ss,∀ key,∀ p∈playsL x key,p∈allFrom 0 S.rs) {l:List Ev} {cls:List Cl} (hE:clsE S l cls=0) {out srt:List Cg} (ho:ChgOf B l out) (hp:srt.Perm (out++cls.flatMap clCg)) (hs:srt.Pairwise cgLe):goF none 0 0 0 [] srt=faCl S B l cls:=by
 obtain ⟨hR,hlen,hc⟩:=clsE_ok hE
 have hin:∀ x∈srt,x.2.1∈allFrom 0 S.rs∧0≤x.1∧x.1∈ticksC (ticksL [] l) cls:=by
  intro x hx
  rcases List.mem_append.1 (hp.mem_iff.1 hx) with h | h
  ·obtain ⟨h1,⟨y,hy,e⟩,_⟩:=chg_all hB g ho h
   refine ⟨h1,by rw [← e];exact (hR.nonneg hy).1,mem_ticksC.2 (.inl (mem_ticksL.2 (.inr ⟨y,hy,e⟩)))⟩
  ·obtain ⟨c,hc1,h⟩:=List.mem_flatMap.1 h
   have h2:=clE_to (hc c hc1)
   unfold clCg at h
   rcases List.mem_cons.1 h with rfl | h
   ·exact ⟨h2.1,h2.2.1,mem_ticksC.2 (.inr ⟨c,hc1,.inl rfl⟩)⟩
   ·split at h
    ·rename_i q
     rw [List.mem_singleton] at h
     subst h
     exact ⟨h2.1,q,mem_ticksC.2 (.inr ⟨c,hc1,.inr ⟨q,rfl⟩⟩)⟩
    ·cases h
 unfold faCl
 refine goF_faAll (asc_allFrom _ _) hs (fun x hx=>(hin x hx).1) (fun x hx=>(hin x hx).2.1) (asc_ticksC (asc_ticksL List.Pairwise.nil)) (fun x hx=>(hin x hx).2.2) ?_
 intro p _ t _
 rw [kdC_perm hp]
 refine kdC_cl hB hR.asc (fun c hc1=>?_) ho p t
 have:=(clE_to (hc c hc1)).2.2.2
 omega
theorem twE_ok {S:Sp} {a b:List Ev} (h:twE S a b=0):RecOk S a∧RecOk S b:=by
 unfold twE at h
 split at h
 ·rename_i q
  exact ⟨audE_ok q,audE_ok h⟩
 ·rename_i q
  exact absurd h q
theorem goF_tw {S:Sp} {B:(Th→Int)→Pp→Bool} (hB:SndIs S B) (g:∀ x∈S.ss,∀ key,∀ p∈playsL x key,p∈allFrom 0 S.rs) {a b:List Ev} (hE:twE S a b=0) {out out2 srt:List Cg} (ho:ChgOf B a out) (ho2:ChgOf B b out2) (hp:srt.Perm (out++out2.map toCl)) (hs:srt.Pairwise cgLe):goF none 0 0 0 [] srt=faTw S B a b:=by
 obtain ⟨hA,hB2⟩:=twE_ok hE
 have hin:∀ x∈srt,x.2.1∈allFrom 0 S.rs∧0≤x.1∧x.1∈ticksL (ticksL [] a) b:=by
  intro x hx
  rcases List.mem_append.1 (hp.mem_iff.1 hx) with h | h
  ·obtain ⟨h1,⟨y,hy,e⟩,_⟩:=chg_all hB g ho h
   exact ⟨h1,by rw [← e];exact (hA.nonneg hy).1,mem_ticksL.2 (.inl (mem_ticksL.2 (.inr ⟨y,hy,e⟩)))⟩
  ·obtain ⟨z,hz,rfl⟩:=List.mem_map.1 h
   obtain ⟨h1,⟨y,hy,e⟩,_⟩:=chg_all hB g ho2 hz
   exact ⟨h1,by show 0≤z.1;rw [← e];exact (hB2.nonneg hy).1,mem_ticksL.2 (.inr ⟨y,hy,e⟩)⟩
 unfold faTw
 refine goF_faAll (asc_allFrom _ _) hs (fun x hx=>(hin x hx).1) (fun x hx=>(hin x hx).2.1) (asc_ticksL (asc_ticksL List.Pairwise.nil)) (fun x hx=>(hin x hx).2.2) ?_
 intro p _ t _
 rw [kdC_perm hp]
 exact kdC_tw hB hA.asc hB2.asc ho ho2 p t
end Go.Proofs.YthhfmppealmblaaGreatDoor
namespace Go.Proofs.YthhfmppealmblaaGreatDoor
structure OnOk (S:Sp) (f:Th→Int):Prop where
 key:∀ d k:Int,f (1,d,k)≠0→keyOk S (d,k)=true∧0≤k∧k<128∧d<6
 bin:∀ t:Th,t.1=1∨t.1=2∨t.1=3→f t=0∨f t=1
 stop:∀ d n:Int,f (2,d,n)≠0→d=0∧0≤n∧n<S.ss.length
 cou:∀ d n:Int,f (3,d,n)≠0→d=0∧0≤n∧n<S.cs.length
theorem onOk_zero (S:Sp):OnOk S (fun _=>0):=⟨fun _ _ h=>absurd rfl h,fun _ _ => .inl rfl,fun _ _ h=>absurd rfl h,fun _ _ h=>absurd rfl h⟩
theorem pl_count {l:List Pl} (hn:l.Nodup) (h:∀ x∈l,0≤x.1∧x.1<6∧0≤x.2∧x.2<128):l.length≤768:=by
 have key:∀ (n:Nat) (l:List Nat),l.Nodup→(∀ x∈l,x<n)→l.length≤n:=by
  intro n
  induction n with
  | zero =>
   intro l _ h
   cases l with
   | nil=>exact Nat.le_refl _
   | cons x l=>exact absurd (h x (by simp)) (Nat.not_lt_zero x)
  | succ n ih =>
   intro l hn h
   by_cases hm:n∈l
   ·have h1:=ih (l.erase n) (hn.erase n) fun x hx=>by
     have h2:=h x (List.mem_of_mem_erase hx)
     have h3:x≠n:=fun e=>by
      subst e
      exact (List.Nodup.mem_erase_iff hn).1 hx |>.1 rfl
     omega
    rw [List.length_erase_of_mem hm] at h1
    omega
   ·have h1:=ih l hn fun x hx=>by
     have h2:=h x hx
     have h3:x≠n:=fun e=>hm (e ▸ hx)
     omega
    omega
 have h2:=key 768 (l.map fun x=>(x.1 * 128+x.2).toNat) (by
  rw [List.nodup_iff_pairwise_ne,List.pairwise_map]
  refine (List.Pairwise.and_mem.1 (List.nodup_iff_pairwise_ne.1 hn)).imp ?_
  rintro a b ⟨ha,hb,hne⟩ e
  have h3:=h a ha
  have h4:=h b hb
  exact hne (Prod.ext (by omega) (by omega))) (by
  intro x hx
  obtain ⟨y,hy,rfl⟩:=List.mem_map.1 hx
  have:=h y hy
  omega)
 rwa [List.length_map] at h2
def addM (S:Sp) (m:List Pl) (x:Pl):List Pl:=if keyOk S x=true∧x ∉ m then m++[x] else m
def addQ (S:Sp) (m q:List Pl) (x:Pl):List Pl:=if keyOk S x=true∧x ∉ m then q++[x] else q
theorem addM_yes {S:Sp} {m:List Pl} {x:Pl} (h:keyOk S x=true) (hx:x ∉ m):addM S m x=m++[x]:=if_pos ⟨h,hx⟩
theorem addM_no {S:Sp} {m:List Pl} {x:Pl} (h:keyOk S x=false∨x∈m):addM S m x=m:=if_neg fun q=>by
 rcases h with h | h
 ·rw [h] at q;cases q.1
 ·exact q.2 h
theorem addQ_yes {S:Sp} {m q:List Pl} {x:Pl} (h:keyOk S x=true) (hx:x ∉ m):addQ S m q x=q++[x]:=if_pos ⟨h,hx⟩
theorem addQ_no {S:Sp} {m q:List Pl} {x:Pl} (h:keyOk S x=false∨x∈m):addQ S m q x=q:=if_neg fun z=>by
 rcases h with h | h
 ·rw [h] at z;cases z.1
 ·exact z.2 h
theorem mem_addM {S:Sp} {m:List Pl} {x y:Pl}:y∈addM S m x ↔ y∈m∨(y=x∧keyOk S x=true):=by
 unfold addM
 by_cases h:keyOk S x=true∧x ∉ m
 ·rw [if_pos h,List.mem_append,List.mem_singleton]
  exact ⟨fun q=>q.imp id fun e=>⟨e,h.1⟩,fun q=>q.imp id fun e=>e.1⟩
 ·rw [if_neg h]
  refine ⟨.inl,fun q=>?_⟩
  rcases q with q | ⟨rfl,q⟩
  ·exact q
  ·exact Classical.byContradiction fun z=>h ⟨q,z⟩
def thrB (S:Sp) (f:Th→Int) (x:Pl) (i:Nat):Bool:=match S.cs[i]? with
 | none=>false
 | some c=>decide (f (3,0,(i:Int))=1) && c.thr && decide (c.frm=x.1)
def thrTo (S:Sp) (x:Pl) (i:Nat):Pl:=match S.cs[i]? with
 | none=>x
 | some c=>(c.to,x.2+c.shift)
structure AcI (S:Sp) (f:Th→Int) (m q:List Pl):Prop where
 nodup:m.Nodup
 ok:∀ x∈m,keyOk S x=true
 act:∀ x∈m,Acts S f x
 sub:∀ x∈q,x∈m
 closed:∀ x∈m,x ∉ q→∀ i,i<S.cs.length→thrB S f x i=true→keyOk S (thrTo S x i)=true→thrTo S x i∈m
theorem AcI.nil (S:Sp) (f:Th→Int):AcI S f [] []:=⟨List.nodup_nil,fun _ h=>(by cases h),fun _ h=>(by cases h),fun _ h=>(by cases h),fun _ h=>(by cases h)⟩
theorem AcI.add {S:Sp} {f:Th→Int} {m q:List Pl} (h:AcI S f m q) {x:Pl} (hx:keyOk S x=true→Acts S f x):AcI S f (addM S m x) (addQ S m q x):=by
 by_cases c:keyOk S x=true∧x ∉ m
 ·rw [addM_yes c.1 c.2,addQ_yes c.1 c.2]
  refine ⟨?_,fun y hy=>?_,fun y hy=>?_,fun y hy=>?_,fun y hy hq i hi ht hk=>?_⟩
  ·rw [List.nodup_append]
   refine ⟨h.nodup,by simp,fun a ha b hb e=>?_⟩
   rw [List.mem_singleton] at hb
   exact c.2 (by rw [← hb,← e];exact ha)
  ·rcases List.mem_append.1 hy with hy | hy
   ·exact h.ok y hy
   ·rw [List.mem_singleton.1 hy];exact c.1
  ·rcases List.mem_append.1 hy with hy | hy
   ·exact h.act y hy
   ·rw [List.mem_singleton.1 hy];exact hx c.1
  ·rcases List.mem_append.1 hy with hy | hy
   ·exact List.mem_append_left _ (h.sub y hy)
   ·exact List.mem_append_right _ hy
  ·rw [List.mem_append,not_or] at hq
   rcases List.mem_append.1 hy with hy | hy
   ·exact List.mem_append_left _ (h.closed y hy hq.1 i hi ht hk)
   ·exact absurd hy hq.2
 ·have c2:keyOk S x=false∨x∈m:=by
   cases e:keyOk S x with
   | false=>exact .inl rfl
   | true=>exact .inr (Classical.byContradiction fun z=>c ⟨e,z⟩)
  rw [addM_no c2,addQ_no c2]
  exact h
theorem keyOk_lt {S:Sp} (hd:S.ds.length≤6) (hdv:∀ d∈S.ds,dvE d=0) {x:Pl} (h:keyOk S x=true):0≤x.1∧x.1<S.ds.length∧x.1<6∧0≤x.2∧x.2<128:=by
 unfold keyOk at h
 rw [Bool.and_eq_true,Bool.and_eq_true,decide_eq_true_iff,decide_eq_true_iff] at h
 obtain ⟨⟨h1,h2⟩,h3⟩:=h
 unfold keyIn at h2
 have hb:x.1.toNat<S.ds.length:=by omega
 rw [List.getElem?_eq_getElem hb] at h2
 simp only [decide_eq_true_iff] at h2
 have h4:=hdv _ (List.getElem_mem hb)
 unfold dvE at h4
 split at h4
 ·omega
 ·cases h4
theorem AcI.len {S:Sp} {f:Th→Int} {m q:List Pl} (h:AcI S f m q) (hd:S.ds.length≤6) (hdv:∀ d∈S.ds,dvE d=0):m.length≤768 :=
 pl_count h.nodup fun x hx=>by
  have:=keyOk_lt hd hdv (h.ok x hx)
  omega
structure AcT (S:Sp) (f:Th→Int) (x:Pl) (k:Nat) (m q:List Pl):Prop where
 nodup:m.Nodup
 ok:∀ y∈m,keyOk S y=true
 act:∀ y∈m,Acts S f y
 sub:∀ y∈q,y∈m
 here:x∈m
 closed:∀ y∈m,y≠x→y ∉ q→∀ i,i<S.cs.length→thrB S f y i=true→keyOk S (thrTo S y i)=true→thrTo S y i∈m
 done:∀ i,i<k→thrB S f x i=true→keyOk S (thrTo S x i)=true→thrTo S x i∈m
theorem AcI.take {S:Sp} {f:Th→Int} {m q:List Pl} {x:Pl} (h:AcI S f m (x :: q)):AcT S f x 0 m q :=
 ⟨h.nodup,h.ok,h.act,fun y hy=>h.sub y (List.mem_cons_of_mem _ hy),h.sub x (by simp),fun y hy hne hq=>h.closed y hy (fun z=>by
  rcases List.mem_cons.1 z with z | z
  ·exact hne z
  ·exact hq z),fun i hi=>absurd hi (Nat.not_lt_zero i)⟩
theorem AcT.skip {S:Sp} {f:Th→Int} {m q:List Pl} {x:Pl} {k:Nat} (h:AcT S f x k m q) (hn:thrB S f x k=false):AcT S f x (k+1) m q :=
 ⟨h.nodup,h.ok,h.act,h.sub,h.here,h.closed,fun i hi ht=>by
  by_cases e:i=k
  ·subst e;rw [hn] at ht;cases ht
  ·exact h.done i (by omega) ht⟩
theorem act_thr {S:Sp} {f:Th→Int} {x:Pl} {k:Nat} (hk:k<S.cs.length) (ht:thrB S f x k=true) (hx:Acts S f x) (ok:keyOk S (thrTo S x k)=true):Acts S f (thrTo S x k):=by
 unfold thrB at ht
 unfold thrTo at ok ⊢
 rw [List.getElem?_eq_getElem hk] at ht ok ⊢
 simp only [Bool.and_eq_true,decide_eq_true_iff] at ht ok ⊢
 obtain ⟨d,key⟩:=x
 have e:S.cs[k].frm=d:=ht.2
 subst e
 exact .thr k hk ht.1.1 ht.1.2 key hx ok
theorem AcT.add {S:Sp} {f:Th→Int} {m q:List Pl} {x:Pl} {k:Nat} (h:AcT S f x k m q) (hk:k<S.cs.length) (ht:thrB S f x k=true):AcT S f x (k+1) (addM S m (thrTo S x k)) (addQ S m q (thrTo S x k)):=by
 have hdone:∀ i,i<k+1→thrB S f x i=true→keyOk S (thrTo S x i)=true→thrTo S x i∈addM S m (thrTo S x k):=by
  intro i hi hti hki
  rw [mem_addM]
  by_cases e:i=k
  ·subst e;exact .inr ⟨rfl,hki⟩
  ·exact .inl (h.done i (by omega) hti hki)
 generalize hy:thrTo S x k=y at *
 have hact:keyOk S y=true→Acts S f y:=fun ok=>by rw [← hy] at ok ⊢;exact act_thr hk ht (h.act x h.here) ok
 by_cases c:keyOk S y=true∧y ∉ m
 ·rw [addM_yes c.1 c.2] at hdone ⊢
  rw [addQ_yes c.1 c.2]
  refine ⟨?_,fun z hz=>?_,fun z hz=>?_,fun z hz=>?_,List.mem_append_left _ h.here,fun z hz hne hq i hi ht2 hk2=>?_,hdone⟩
  ·rw [List.nodup_append]
   refine ⟨h.nodup,by simp,fun a ha b hb e=>?_⟩
   rw [List.mem_singleton] at hb
   exact c.2 (by rw [← hb,← e];exact ha)
  ·rcases List.mem_append.1 hz with hz | hz
   ·exact h.ok z hz
   ·rw [List.mem_singleton.1 hz];exact c.1
  ·rcases List.mem_append.1 hz with hz | hz
   ·exact h.act z hz
   ·rw [List.mem_singleton.1 hz];exact hact c.1
  ·rcases List.mem_append.1 hz with hz | hz
   ·exact List.mem_append_left _ (h.sub z hz)
   ·exact List.mem_append_right _ hz
  ·rw [List.mem_append,not_or] at hq
   rcases List.mem_append.1 hz with hz | hz
   ·exact List.mem_append_left _ (h.closed z hz hne hq.1 i hi ht2 hk2)
   ·exact absurd hz hq.2
 ·have c2:keyOk S y=false∨y∈m:=by
   cases e:keyOk S y with
   | false=>exact .inl rfl
   | true=>exact .inr (Classical.byContradiction fun z=>c ⟨e,z⟩)
  rw [addM_no c2] at hdone ⊢
  rw [addQ_no c2]
  exact ⟨h.nodup,h.ok,h.act,h.sub,h.here,h.closed,hdone⟩
theorem AcT.end {S:Sp} {f:Th→Int} {m q:List Pl} {x:Pl} (h:AcT S f x S.cs.length m q):AcI S f m q :=
 ⟨h.nodup,h.ok,h.act,h.sub,fun y hy hq i hi ht hk=>by
  by_cases e:y=x
  ·subst e;exact h.done i hi ht hk
  ·exact h.closed y hy e hq i hi ht hk⟩
structure AcH (S:Sp) (f:Th→Int) (m:List Pl):Prop where
 key:∀ d k,0≤d∧d<(S.ds.length:Int)→k∈playedL f d→(d,k)∈m
 cou:∀ i (hi:i<S.cs.length),f (3,0,(i:Int))=1→∀ k∈takes S.cs[i].only (playedL f S.cs[i].frm),keyOk S (S.cs[i].to,k+S.cs[i].shift)=true→(S.cs[i].to,k+S.cs[i].shift)∈m
theorem act_all {S:Sp} {f:Th→Int} {m:List Pl} (h:AcI S f m []) (hh:AcH S f m) (x:Pl):x∈m ↔ Acts S f x:=by
 refine ⟨h.act x,act_in (Q:=fun x=>x∈m) hh.key hh.cou ?_ x⟩
 intro i hi hon ht k hk ok
 have e:thrTo S (S.cs[i].frm,k) i=(S.cs[i].to,k+S.cs[i].shift):=by unfold thrTo;rw [List.getElem?_eq_getElem hi]
 rw [← e]
 refine h.closed _ hk (by simp) i hi ?_ (by rw [e];exact ok)
 unfold thrB
 rw [List.getElem?_eq_getElem hi]
 simp only [Bool.and_eq_true,decide_eq_true_iff]
 exact ⟨⟨hon,ht⟩,trivial⟩
theorem addQ_measure {S:Sp} {m q:List Pl} {x:Pl}:2 * (addM S m x).length+q.length=2 * m.length+(addQ S m q x).length+(if keyOk S x=true∧x ∉ m then 1 else 0):=by
 unfold addM addQ
 split
 ·simp only [List.length_append,List.length_singleton];omega
 ·omega
end Go.Proofs.YthhfmppealmblaaGreatDoor
