/-
  A part of the proof: TR, TP, TT.
-/
import Derived.Test.YthhfmppealmblaaGreatDoorM40
import Derived.Test.YthhfmppealmblaaGreatDoorM38
namespace Go.Proofs.YthhfmppealmblaaGreatDoor
open Go.RowKit
structure G2 (a b:Nat) (W W':World):Prop where
 os:W'.os=W.os
 tape:W'.tape=W.tape
 output:W'.output=W.output
 size:W.heap.size≤W'.heap.size
 block:∀ k,k<W.heap.size→k≠a→k≠b→W'.heap[k]?=W.heap[k]?
theorem G2.refl (a b:Nat) (W:World):G2 a b W W:=⟨rfl,rfl,rfl,Nat.le_refl _,fun _ _ _ _=>rfl⟩
theorem G2.trans {a b:Nat} {X Y Z:World} (h:G2 a b X Y) (k:G2 a b Y Z):G2 a b X Z:=⟨k.os.trans h.os,k.tape.trans h.tape,k.output.trans h.output,Nat.le_trans h.size k.size,fun i h1 h2 h3=>(k.block i (Nat.lt_of_lt_of_le h1 h.size) h2 h3).trans (h.block i h1 h2 h3)⟩
theorem G2.of_below {a b:Nat} {W W':World} (h:Below W.heap.size W W'):G2 a b W W':=⟨h.os,h.tape,h.output,h.size,fun k hk _ _=>h.block k hk⟩
theorem G2.of_grown {a b:Nat} {W W':World} (h:W.grownBy W' (some a)∨W.grownBy W' (some b)):G2 a b W W':=by
 rcases h with h | h
 ·exact ⟨h.os,h.tape,h.output,h.size,fun k hk h1 _=>h.block k hk (fun e=>h1 (Option.some.inj e))⟩
 ·exact ⟨h.os,h.tape,h.output,h.size,fun k hk _ h1=>h.block k hk (fun e=>h1 (Option.some.inj e))⟩
theorem G2.below {a b n0:Nat} {W W':World} (h:G2 a b W W') (ha:n0≤a) (hb:n0≤b) (hn:n0≤W.heap.size):Below n0 W W':=⟨h.os,h.tape,h.output,h.size,fun k hk=>h.block k (by omega) (by omega) (by omega)⟩
theorem set_twice {cs:Array Value} {i:Nat} {v u:Value} (h:cs[i]?=some u):(cs.setIfInBounds i v).setIfInBounds i u=cs:=by
 refine Array.ext_getElem? fun j=>?_
 rw [Array.getElem?_setIfInBounds,Array.getElem?_setIfInBounds,Array.size_setIfInBounds]
 by_cases e:i=j
 ·subst e
  have:=(Array.getElem?_eq_some_iff.1 h).1
  rw [if_pos rfl,if_pos this,h]
 ·rw [if_neg e,if_neg e]
theorem G2.back {a b B i:Nat} {T:TypeId} {cs:Array Value} {v u:Value} {W W2:World} (hB:Blk W B T cs) (hu:cs[i]?=some u) (hab:B≠a∧B≠b) (h:G2 a b (W.setCell ⟨B,i,none⟩ v) W2):G2 a b W (W2.setCell ⟨B,i,none⟩ u):=by
 have h1:=hB.set i v
 have hz:(W.setCell ⟨B,i,none⟩ v).heap.size=W.heap.size:=by simp [World.setCell]
 have h2:Blk W2 B T (cs.setIfInBounds i v):=(h.block B h1.lt hab.1 hab.2).trans h1
 have h3:=h2.set i u
 rw [set_twice hu] at h3
 have hz2:(W2.setCell ⟨B,i,none⟩ u).heap.size=W2.heap.size:=by simp [World.setCell]
 refine ⟨h.os,h.tape,h.output,by rw [hz2,← hz];exact h.size,fun k hk e1 e2=>?_⟩
 by_cases e:k=B
 ·subst e
  exact h3.trans hB.symm
 ·rw [Below.heap_setCell W2 ⟨B,i,none⟩ u k e,h.block k (by rw [hz];exact hk) e1 e2,Below.heap_setCell W ⟨B,i,none⟩ v k e]
def TryE (B:(Th→Int)→Pp→Bool) (l:List Ev) (k:Int) (N:Nat) (ms:List Nat) (j i:Nat) (fk mk:Nat) (W:World) (e:Ending) (W':World):Prop:=e = .returned (.tuple #[])∧G2 fk mk W W'∧∃ Dm Df,Mp ekI W' mk (setM Dm)∧Mp ekI W' fk (setM Df)∧IdM B l k N ms j (i+1) Dm Df
theorem mdel_setM {κ:Type} [DecidableEq κ] (x:κ):∀ m:List κ,m.Nodup→∃ m',mdel x (setM m)=setM m'∧∀ q,q∈m' ↔ q≠x∧q∈m
 | [],_=>⟨[],rfl,fun q=>by simp⟩
 | y :: m,hn=>by
  obtain ⟨m',h1,h2⟩:=mdel_setM x m (List.nodup_cons.1 hn).2
  have hy:=(List.nodup_cons.1 hn).1
  unfold setM at h1 ⊢
  rw [List.map_cons]
  unfold mdel
  by_cases e:y=x
  ·subst e
   refine ⟨m,by simp,fun q=>?_⟩
   constructor
   ·intro h
    exact ⟨fun e=>hy (e ▸ h),List.mem_cons_of_mem _ h⟩
   ·rintro ⟨h3,h4⟩
    exact (List.mem_cons.1 h4).resolve_left h3
  ·refine ⟨y :: m',by rw [if_neg (fun q=>e q.symm),h1];rfl,fun q=>?_⟩
   rw [List.mem_cons,List.mem_cons,h2]
   constructor
   ·rintro (rfl | ⟨h3,h4⟩)
    ·exact ⟨e,.inl rfl⟩
    ·exact ⟨h3,.inr h4⟩
   ·rintro ⟨h3,rfl | h4⟩
    ·exact .inl rfl
    ·exact .inr ⟨h3,h4⟩
structure TrS (w0:World) (PL XB NB nm FB MB fk mk:Nat) (now:List Pp) (Fa Ma C:Array Value) (lm lf:List (Int × Value)) (W:World):Prop where
 be:Below w0.heap.size w0 W
 pl:Blk W PL 134 C
 x:Boxed W XB 130 (.pointer (some ⟨PL,0,none⟩))
 n:Boxed W NB 131 (.map (some nm))
 nm:Mp ekP W nm (setM now)
 F:Blk W FB 140 Fa
 M:Blk W MB 140 Ma
 f:Mp ekI W fk lf
 m:Mp ekI W mk lm
section
variable {w0 : World} {PL XB NB nm FB MB fk mk : Nat} {now : List Pp} {Fa Ma C : Array Value} {lm lf : List (Int × Value)} {W W' : World}
theorem TrS.below (h:TrS w0 PL XB NB nm FB MB fk mk now Fa Ma C lm lf W) (hb:Below W.heap.size W W'):TrS w0 PL XB NB nm FB MB fk mk now Fa Ma C lm lf W' :=
 ⟨below_step h.be hb,h.pl.below hb,(hb.block _ h.x.lt).trans h.x,(hb.block _ h.n.lt).trans h.n,h.nm.below hb,h.F.below hb,h.M.below hb,h.f.below hb,h.m.below hb⟩
theorem TrS.upM (h:TrS w0 PL XB NB nm FB MB fk mk now Fa Ma C lm lf W) (h1:nm≠mk) (h2:fk≠mk) (h3:w0.heap.size≤mk) (hg:W.grownBy W' (some mk)) {lm':List (Int × Value)} (hm:Mp ekI W' mk lm'):TrS w0 PL XB NB nm FB MB fk mk now Fa Ma C lm' lf W' :=
 ⟨h.be.grown hg h.be.size (fun j e=>by cases e;exact h3),h.pl.grown hg (fun e=>mp_not_blk h.m h.pl (Option.some.inj e).symm),h.x.kept hg (fun e=>mp_not_blk h.m (show Blk W XB _ #[_] from h.x) (Option.some.inj e)),h.n.kept hg (fun e=>mp_not_blk h.m (show Blk W NB _ #[_] from h.n) (Option.some.inj e)),h.nm.kept hg (fun e=>h1 (Option.some.inj e)),h.F.grown hg (fun e=>mp_not_blk h.m h.F (Option.some.inj e).symm),h.M.grown hg (fun e=>mp_not_blk h.m h.M (Option.some.inj e).symm),h.f.kept hg (fun e=>h2 (Option.some.inj e)),hm⟩
theorem TrS.upF (h:TrS w0 PL XB NB nm FB MB fk mk now Fa Ma C lm lf W) (h1:nm≠fk) (h2:fk≠mk) (h3:w0.heap.size≤fk) (hg:W.grownBy W' (some fk)) {lf':List (Int × Value)} (hm:Mp ekI W' fk lf'):TrS w0 PL XB NB nm FB MB fk mk now Fa Ma C lm lf' W' :=
 ⟨h.be.grown hg h.be.size (fun j e=>by cases e;exact h3),h.pl.grown hg (fun e=>mp_not_blk h.f h.pl (Option.some.inj e).symm),h.x.kept hg (fun e=>mp_not_blk h.f (show Blk W XB _ #[_] from h.x) (Option.some.inj e)),h.n.kept hg (fun e=>mp_not_blk h.f (show Blk W NB _ #[_] from h.n) (Option.some.inj e)),h.nm.kept hg (fun e=>h1 (Option.some.inj e)),h.F.grown hg (fun e=>mp_not_blk h.f h.F (Option.some.inj e).symm),h.M.grown hg (fun e=>mp_not_blk h.f h.M (Option.some.inj e).symm),hm,h.m.kept hg (fun e=>h2 (Option.some.inj e).symm)⟩
theorem TrS.set (h:TrS w0 PL XB NB nm FB MB fk mk now Fa Ma C lm lf W) (h3:w0.heap.size≤PL) (i:Nat) (v:Value):TrS w0 PL XB NB nm FB MB fk mk now Fa Ma (C.setIfInBounds i v) lm lf (W.setCell ⟨PL,i,none⟩ v):=by
 have hg:=set_grown W PL i v
 exact ⟨h.be.grown hg h.be.size (fun j e=>by cases e;exact h3),h.pl.set i v,h.x.kept hg (fun e=>(Blk.ne (show Blk W XB _ #[_] from h.x) h.pl (by decide)) (Option.some.inj e)),h.n.kept hg (fun e=>(Blk.ne (show Blk W NB _ #[_] from h.n) h.pl (by decide)) (Option.some.inj e)),h.nm.kept hg (fun e=>mp_not_blk h.nm h.pl (Option.some.inj e).symm),h.F.other _ _ (Blk.ne h.F h.pl (by decide)),h.M.other _ _ (Blk.ne h.M h.pl (by decide)),h.f.kept hg (fun e=>mp_not_blk h.f h.pl (Option.some.inj e).symm),h.m.kept hg (fun e=>mp_not_blk h.m h.pl (Option.some.inj e).symm)⟩
end
set_option maxRecDepth 100000 in
set_option maxHeartbeats 12800000 in
theorem try_any (v1 v2 v3 v4:Value) (S:Sp) (hc:(checkP S).2=0) (fp:Nat→Value) (PB:Nat) (B:(Th→Int)→Pp→Bool) (hB:SndIs S B) (l:List Ev) (k N:Nat) (hk:k<2) (ms:List Nat) (j i:Nat) (hi:i<N) (f:Th→Int) (hfe:onV (l.take (j+1))=f) (hf:OnOk S f) (tk:Int) (PL ix:Nat) (hix:OnIx ((k:Int)+2,0,(i:Int)) ix) (now:List Pp) (hnow:∀ p,p∈now ↔ Snd S f p) (FB MB NB XB nm fk mk:Nat) (Fa Ma cs:Array Value) (hFk:Fa[k]?=some (.map (some fk))) (hMk:Ma[k]?=some (.map (some mk))) (hne:fk≠mk) (hn1:nm≠mk) (hn2:nm≠fk) (Dm Df:List Int) (hId:IdM B l ((k:Int)+2) N ms j i Dm Df) (w0 W:World) (hon:OnI f cs)
  (hsp:SpRd w0 v1 v2 v3 v4 fp S) (hpb:Blk w0 PB 27 #[v1,v2,v3,v4]) (hz1:w0.heap.size≤fk) (hz2:w0.heap.size≤mk) (hz3:w0.heap.size≤PL) (hT:TrS w0 PL XB NB nm FB MB fk mk now Fa Ma (plC PB cs tk) (setM Dm) (setM Df) W) :
  Calls Tryz.prog 64 #[.int .i64 k,.int .i64 i,.pointer (some ⟨PL,1+ix,none⟩),.pointer (some ⟨FB,0,none⟩),.pointer (some ⟨MB,0,none⟩),.pointer (some ⟨NB,0,none⟩),.pointer (some ⟨XB,0,none⟩)] W (TryE B l ((k:Int)+2) N ms j i fk mk W):=by
 have hu1:onCell ((k:Int)+2,0,(i:Int)) (f ((k:Int)+2,0,(i:Int))) = .bool (decide (f ((k:Int)+2,0,(i:Int))=1)):=if_neg (by simp only;omega)
 have hu0:onCell ((k:Int)+2,0,(i:Int)) 0 = .bool false:=if_neg (by simp only;omega)
 have hcv:=hon.val _ _ hix
 rw [hu1] at hcv
 have hcp:(plC PB cs tk)[1+ix]?=some (.bool (decide (f ((k:Int)+2,0,(i:Int))=1))):=(plC_on hon.size (onIx_lt hix)).trans hcv
 obtain ⟨db,hdb⟩:∃ db,decide (f ((k:Int)+2,0,(i:Int))=1)=db:=⟨_,rfl⟩
 rw [hdb] at hcp
 have c0:W.cell? ⟨PL,1+ix,none⟩=some (.bool db):=(hT.pl.cell _).trans hcp
 have cF:W.cell? ⟨FB,k,none⟩=some (.map (some fk)):=(hT.F.cell _).trans hFk
 have cM:W.cell? ⟨MB,k,none⟩=some (.map (some mk)):=(hT.M.cell _).trans hMk
 have hk2:(k:Int)<2:=by omega
 obtain ⟨bb,hbb⟩:∃ bb,decide ((i:Int)∈Df)=bb:=⟨_,rfl⟩
 have hget:(mget (i:Int) (setM Df)).getD (.bool false) = .bool bb:=by
  rw [mget_set,← hbb]
 have hlk:(Instr.lookup 139 (.map (some fk)) (.int .i64 i) false).run Tryz.prog W = .ok (.bool bb) W:=by
  rw [← hget]
  exact (hT.f.lookup int_keys Tryz.underlying139 (Tryz.zeroValue4 _) (i:Int)).1
 have HT:=Lib.hid hT
 have HID:=Lib.hid hId
 have HFE:=Lib.hid hfe
 have HDB:=Lib.hid hdb
 have HBB:=Lib.hid hbb
 have HCP:=Lib.hid hcp
 clear hId hu1 hcv hfe hdb hbb hcp hget
 cases db with
 | false =>
  clear hT hlk
  go_enter Tryz.func64,Tryz.ntmps64
  go_wp2
  refine bodyPost_ret (results_none rfl _ _ _) rfl ?_
  exact ⟨rfl,G2.refl _ _ _,Dm,Df,HT.out.m,HT.out.f,HID.out.skip hi (.inl (by rw [HFE.out];exact of_decide_eq_false HDB.out))⟩
 | true =>
 cases bb with
 | true =>
  clear hT
  go_enter Tryz.func64,Tryz.ntmps64
  go_wp2
  refine bodyPost_ret (results_none rfl _ _ _) rfl ?_
  exact ⟨rfl,G2.refl _ _ _,Dm,Df,HT.out.m,HT.out.f,HID.out.skip hi (.inr (of_decide_eq_true HBB.out))⟩
 | false =>
 have HD1:=Lib.hid (show onV (l.take (j+1)) ((k:Int)+2,0,(i:Int))=1 by rw [HFE.out];exact of_decide_eq_true HDB.out)
 have HD2:=Lib.hid (of_decide_eq_false HBB.out)
 have hmm:=hT.m
 clear hT HDB HBB
 go_enter Tryz.func64,Tryz.ntmps64
 go_upto_region 2 with (at_mapUpdate;refine wpList_update_mp _ rfl _ _ _ 139 rfl 4 int_keys Tryz.underlying139 rfl hmm (i:Int) (.bool true) rfl rfl ?_;intro W3 hm3 hg3 hs3)
 have HT3:=Lib.hid (HT.out.upM hn1 hne hz2 hg3 hm3)
 have HG3:=Lib.hid (G2.of_grown (a:=fk) (b:=mk) (.inr hg3))
 clear c0 cF cM hmm hlk hm3 hg3 hs3
 have c0:W3.cell? ⟨PL,1+ix,none⟩=some (.bool true):=(HT3.out.pl.cell _).trans HCP.out
 have f0:W3.frozen? ⟨PL,1+ix,none⟩=false:=HT3.out.pl.frozen _
 have HT4:=Lib.hid (HT3.out.set hz3 (1+ix) (.bool false))
 rw [plC_set hon.size (onIx_lt hix)] at HT4
 have hon4:=hon.set hix 0
 rw [hu0] at hon4
 have HON4:=Lib.hid hon4
 clear hon4 hu0
 go_upto_region 3 with fail
 obtain ⟨W4,hW4⟩:∃ W4,W3.setCell ⟨PL,1+ix,none⟩ (.bool false)=W4:=⟨_,rfl⟩
 rw [hW4] at HT4 ⊢
 have HW4:=Lib.hid hW4
 clear hW4 c0 f0
 have HSO:=Lib.hid (fun (W':World) (hb:Below W4.heap.size W4 W')=>sounding_any v1 v2 v3 v4 S hc fp PB PL (offF ((k:Int)+2) i f) tk (hf.off) W' (hsp.later (HT4.out.below hb).be) (hpb.below (HT4.out.below hb).be) ⟨_,HON4.out,(HT4.out.below hb).pl⟩)
 have cN:W4.cell? ⟨NB,0,none⟩=some (.map (some nm)):=HT4.out.n.cell
 have cX:W4.cell? ⟨XB,0,none⟩=some (.pointer (some ⟨PL,0,none⟩)):=HT4.out.x.cell
 obtain ⟨cc,hcc⟩:∃ cc:Bool,cc=true ↔ B (offF ((k:Int)+2) i f)=B f:=by
  by_cases q:B (offF ((k:Int)+2) i f)=B f
  ·exact ⟨true,by simp [q]⟩
  ·exact ⟨false,by simp [q]⟩
 have HCC:=Lib.hid hcc
 have HSM:=Lib.hid (fun (m:List Pp) (hm:∀ p,p∈m ↔ Snd S (offF ((k:Int)+2) i f) p)=>(show cc=true ↔ ∀ p,p∈now ↔ p∈m by
  rw [hcc]
  constructor
  ·intro q p
   rw [hnow,hm,← hB f p,← hB _ p,q]
  ·intro q
   funext p
   have:=q p
   rw [hnow,hm,← hB f p,← hB _ p] at this
   exact (Bool.eq_iff_iff.2 this).symm))
 clear hcc
 have hdr:=hold2 (W0:=W4) ⟨Below.refl _ _,cN,cX⟩ ((Below.refl _ W4).drew)
 go_region_held3 (fun w'=>Below W4.heap.size W4 w'∧w'.cell? ⟨NB,0,none⟩=some (.map (some nm))∧w'.cell? ⟨XB,0,none⟩=some (.pointer (some ⟨PL,0,none⟩))) (first | exact hdr | exact hn | exact hn5 | assumption | fail) (first | (go_at_call 61;(with_reducible refine (HSO.out _ hdr.1).mono ?_);rintro e w2 ⟨mb,m,rfl,_,hmp,_,hmem,hb2⟩;have hn:=hold2 hdr hb2) | (go_at_call 65;(with_reducible refine (sameM_any nm mb now m _ (HT4.out.below hn.1).nm hmp cc (HSM.out m hmem)).mono ?_);rintro e w5 ⟨rfl,hb5⟩;have hn5:=hold2 hn hb5) | fail)
 have HT5:=Lib.hid (HT4.out.below hn5.1)
 have HBK:=Lib.hid (fun (W':World) (h:G2 fk mk w5 W')=>(G2.back HT3.out.pl HCP.out ⟨mp_not_blk HT3.out.f HT3.out.pl,mp_not_blk HT3.out.m HT3.out.pl⟩ (by rw [HW4.out];exact (G2.of_below hn5.1).trans h):G2 fk mk W3 (W'.setCell ⟨PL,1+ix,none⟩ (.bool true))))
 clear hdr hn hn5 hb2 hb5 hmp hmem cN cX HSO HSM
 obtain ⟨m',hm1,hm2⟩:=mput_setM (i:Int) Dm
 cases cc with
 | true =>
  have c1:w5.cell? ⟨PL,1+ix,none⟩=some (.bool false):=by rw [HT5.out.pl.cell];exact (plC_on (by rw [Array.size_setIfInBounds];exact hon.size) (onIx_lt hix)).trans (by rw [Array.getElem?_setIfInBounds_self_of_lt (by rw [hon.size];exact onIx_lt hix)])
  have f1:w5.frozen? ⟨PL,1+ix,none⟩=false:=HT5.out.pl.frozen _
  have HT6:=Lib.hid (HT5.out.set hz3 (1+ix) (.bool true))
  have HM1:=Lib.hid hm1
  have HM2:=Lib.hid hm2
  clear hm1 hm2
  go_wp2
  refine bodyPost_ret (results_none rfl _ _ _) rfl ?_
  exact ⟨rfl,HG3.out.trans (HBK.out _ (G2.refl _ _ _)),m',Df,by rw [← HM1.out];exact HT6.out.m,HT6.out.f,HID.out.keep hi HD1.out HD2.out (by rw [HFE.out];exact HCC.out.1 trivial) (fun x=>(HM2.out x).trans ⟨fun h=>h.elim .inr .inl,fun h=>h.elim .inr .inl⟩)⟩
 | false =>
  have hmm:=HT5.out.m
  have cM:w5.cell? ⟨MB,k,none⟩=some (.map (some mk)):=(HT5.out.M.cell _).trans hMk
  have hnd:=hmm.nodup
  obtain ⟨m2,hd1,hd2⟩:=mdel_setM (i:Int) m' (by have:=hnd;rw [hm1,setM_keys] at this;exact this)
  obtain ⟨m3,hp1,hp2⟩:=mput_setM (i:Int) Df
  have HMM:=Lib.hid (show ∀ x,x∈m2 ↔ x≠(i:Int)∧x∈Dm from fun x=>(hd2 x).trans ⟨fun h=>⟨h.1,((hm2 x).1 h.2).resolve_right h.1⟩,fun h=>⟨h.1,(hm2 x).2 (.inl h.2)⟩⟩)
  have HMF:=Lib.hid (show ∀ x,x∈m3 ↔ x=(i:Int)∨x∈Df from fun x=>(hp2 x).trans ⟨fun h=>h.elim .inr .inl,fun h=>h.elim .inr .inl⟩)
  have HD3:=Lib.hid hd1
  have HP3:=Lib.hid hp1
  have HM1:=Lib.hid hm1
  clear hd1 hd2 hp1 hp2 hm1 hm2 hnd
  obtain ⟨W6,hrun6,hm6,hg6,hs6⟩:=hmm.delete int_keys Tryz.underlying139 3 0 (i:Int)
  rw [HM1.out,HD3.out] at hm6
  have HT6:=Lib.hid (HT5.out.upM hn1 hne hz2 hg6 hm6)
  have HG6:=Lib.hid (G2.of_grown (a:=fk) (b:=mk) (.inr hg6))
  have hrun:(Builtin.delete_ #[139,3] 0 #[.map (some mk),.int .i64 i]).run Tryz.prog w5 = .ok (.tuple #[]) W6:=hrun6
  clear hmm hrun6 hm6 hg6 hs6
  have hff:=HT6.out.f
  have cF:W6.cell? ⟨FB,k,none⟩=some (.map (some fk)):=(HT6.out.F.cell _).trans hFk
  go_upto_region 6 with (at_mapUpdate;refine wpList_update_mp _ rfl _ _ _ 139 rfl 4 int_keys Tryz.underlying139 rfl hff (i:Int) (.bool true) rfl rfl ?_;intro W7 hm7 hg7 hs7)
  rw [HP3.out] at hm7
  have HT7:=Lib.hid (HT6.out.upF hn2 hne hz1 hg7 hm7)
  have HG7:=Lib.hid (HG6.out.trans (G2.of_grown (a:=fk) (b:=mk) (.inl hg7)))
  clear hff cF cM hrun hm7 hg7 hs7
  have c1:W7.cell? ⟨PL,1+ix,none⟩=some (.bool false):=by rw [HT7.out.pl.cell];exact (plC_on (by rw [Array.size_setIfInBounds];exact hon.size) (onIx_lt hix)).trans (by rw [Array.getElem?_setIfInBounds_self_of_lt (by rw [hon.size];exact onIx_lt hix)])
  have f1:W7.frozen? ⟨PL,1+ix,none⟩=false:=HT7.out.pl.frozen _
  have HT8:=Lib.hid (HT7.out.set hz3 (1+ix) (.bool true))
  go_wp2
  refine bodyPost_ret (results_none rfl _ _ _) rfl ?_
  exact ⟨rfl,HG3.out.trans (HBK.out _ HG7.out),m2,m3,HT8.out.m,HT8.out.f,HID.out.fail hi HD1.out (by rw [HFE.out];intro q;have:=HCC.out.2 q;cases this) HMM.out HMF.out⟩
end Go.Proofs.YthhfmppealmblaaGreatDoor
namespace Go.Proofs.YthhfmppealmblaaGreatDoor
open Go.RowKit Go.Shelf
structure GL (L:List Nat) (W W':World):Prop where
 os:W'.os=W.os
 tape:W'.tape=W.tape
 output:W'.output=W.output
 size:W.heap.size≤W'.heap.size
 block:∀ k,k<W.heap.size→k ∉ L→W'.heap[k]?=W.heap[k]?
theorem GL.trans {L:List Nat} {X Y Z:World} (h:GL L X Y) (k:GL L Y Z):GL L X Z:=⟨k.os.trans h.os,k.tape.trans h.tape,k.output.trans h.output,Nat.le_trans h.size k.size,fun i h1 h2=>(k.block i (Nat.lt_of_lt_of_le h1 h.size) h2).trans (h.block i h1 h2)⟩
theorem GL.of_below {L:List Nat} {W W':World} (h:Below W.heap.size W W'):GL L W W':=⟨h.os,h.tape,h.output,h.size,fun k hk _=>h.block k hk⟩
theorem GL.of2 {L:List Nat} {a b:Nat} {W W':World} (h:G2 a b W W') (ha:a∈L) (hb:b∈L):GL L W W':=⟨h.os,h.tape,h.output,h.size,fun k hk hn=>h.block k hk (fun e=>hn (e ▸ ha)) (fun e=>hn (e ▸ hb))⟩
theorem GL.below {L:List Nat} {n0:Nat} {W W':World} (h:GL L W W') (hL:∀ k∈L,n0≤k) (hn:n0≤W.heap.size):Below n0 W W':=⟨h.os,h.tape,h.output,h.size,fun k hk=>h.block k (by omega) (fun q=>by have:=hL k q;omega)⟩
theorem GL.from {L:List Nat} {B:Nat} {W W':World} (h:GL L W W') (hL:∀ k∈L,k<B):KeepsFrom B W W':=⟨h.size,fun k o hB hk _=>(h.block k (Array.getElem?_eq_some_iff.1 hk).1 (fun q=>by have:=hL k q;omega)).trans hk⟩
theorem GL.kp {L:List Nat} {n0:Nat} {W W':World} (h:GL L W W') (hL:∀ k∈L,n0≤k∧∃ es c,W.heap[k]?=some (.map es c)) (hn:n0≤W.heap.size):KpM n0 W W' :=
 ⟨h.below (fun k q=>(hL k q).1) hn,fun k cs t fr _ hk=>(h.block k (Array.getElem?_eq_some_iff.1 hk).1 (fun q=>by obtain ⟨_,es,c,e⟩:=hL k q;rw [hk] at e;cases e)).trans hk⟩
theorem Mp.same {κ:Type} {ek:κ→Value} {W W':World} {b:Nat} {l:List (κ × Value)} (h:Mp ek W b l) (e:W'.heap[b]?=W.heap[b]?):Mp ek W' b l:=by
 obtain ⟨es,c,hb,r⟩:=h
 exact ⟨es,c,e.trans hb,r⟩
theorem Blk.turn {W W':World} {B D:Nat} {t T:TypeId} {cs:Array Value} {row:Option Nat} (h:Blk W B t cs) (hg:W.grownBy W' row) (ht:Turn T D W row) (hne:t≠T):Blk W' B t cs:=h.grown hg (fun e=>by
 obtain ⟨_,o,ho,hc⟩:=ht B e
 rw [show W.heap[B]?=_ from h] at ho
 cases ho
 rcases hc with hc | ⟨cs,fr,hc⟩
 ·cases hc
 ·cases hc
  exact hne rfl)
structure IdS (w0:World) (Z:Nat) (A0 F0 A1 F1:List Int) (W:World):Prop where
 be:Below w0.heap.size w0 W
 F:Blk W (Z+5) 140 #[.map (some (Z+3)),.map (some (Z+4))]
 M:Blk W (Z+2) 140 #[.map (some Z),.map (some (Z+1))]
 m0:Mp ekI W Z (setM A0)
 m1:Mp ekI W (Z+1) (setM A1)
 f0:Mp ekI W (Z+3) (setM F0)
 f1:Mp ekI W (Z+4) (setM F1)
section
variable {w0 W0 : World} {Z : Nat} {A0 F0 A1 F1 : List Int} {W W' : World}
theorem IdS.below (h:IdS w0 Z A0 F0 A1 F1 W) (hb:Below W.heap.size W W'):IdS w0 Z A0 F0 A1 F1 W':=⟨below_step h.be hb,h.F.below hb,h.M.below hb,h.m0.below hb,h.m1.below hb,h.f0.below hb,h.f1.below hb⟩
theorem IdS.turn (h:IdS w0 Z A0 F0 A1 F1 W) {D:Nat} {row:Option Nat} (hD:w0.heap.size≤D) (hg:W.grownBy W' row) (ht:Turn 134 D W row):IdS w0 Z A0 F0 A1 F1 W' :=
 ⟨h.be.grown hg h.be.size (fun r e=>Nat.le_trans hD (ht r e).1),h.F.turn hg ht (by decide),h.M.turn hg ht (by decide),Mp.turn h.m0 hg ht,Mp.turn h.m1 hg ht,Mp.turn h.f0 hg ht,Mp.turn h.f1 hg ht⟩
def idW (W:World):World:=(((((W.alloc (.map #[] 0)).alloc (.map #[] 0)).alloc (.cells #[.map (some W.heap.size),.map (some (W.heap.size+1))] 140)).alloc (.map #[] 0)).alloc (.map #[] 0)).alloc (.cells #[.map (some (W.heap.size+3)),.map (some (W.heap.size+4))] 140)
theorem idW_below (W:World):Below W.heap.size W (idW W):=(((((((Below.refl W.heap.size W).alloc (Nat.le_refl _) _).alloc (by simp) _).alloc (by simp;omega) _).alloc (by simp;omega) _).alloc (by simp;omega) _).alloc (by simp;omega) _)
theorem mpK_alloc {κ:Type} {ek:κ→Value} {W:World} {b:Nat} {l:List (κ × Value)} (h:Mp ek W b l) (o:Obj):Mp ek (W.alloc o) b l:=h.below ((Below.refl _ W).alloc (Nat.le_refl _) o)
theorem IdS.start (h:Below w0.heap.size w0 W):IdS w0 W.heap.size [] [] [] [] (idW W):=by
 have a1:=Mp.made (ek:=ekI) (W.alloc (.map #[] 0))
 have a2:=Blk.new ((W.alloc (.map #[] 0)).alloc (.map #[] 0)) 140 #[.map (some W.heap.size),.map (some (W.heap.size+1))]
 have a3:=Mp.made (ek:=ekI) (((W.alloc (.map #[] 0)).alloc (.map #[] 0)).alloc (.cells #[.map (some W.heap.size),.map (some (W.heap.size+1))] 140))
 have a4:=Mp.made (ek:=ekI) ((((W.alloc (.map #[] 0)).alloc (.map #[] 0)).alloc (.cells #[.map (some W.heap.size),.map (some (W.heap.size+1))] 140)).alloc (.map #[] 0))
 have a5:=Blk.new (((((W.alloc (.map #[] 0)).alloc (.map #[] 0)).alloc (.cells #[.map (some W.heap.size),.map (some (W.heap.size+1))] 140)).alloc (.map #[] 0)).alloc (.map #[] 0)) 140 #[.map (some (W.heap.size+3)),.map (some (W.heap.size+4))]
 simp only [World.size_alloc] at a1 a2 a3 a4 a5
 exact ⟨below_step h (idW_below W),a5,((a2.alloc _).alloc _).alloc _,mpK_alloc (mpK_alloc (mpK_alloc (mpK_alloc (mpK_alloc (Mp.made W) _) _) _) _) _,mpK_alloc (mpK_alloc (mpK_alloc (mpK_alloc a1 _) _) _) _,mpK_alloc (mpK_alloc a3 _) _,mpK_alloc a4 _⟩
end
structure IdI (w0:World) (Z:Nat) (B:(Th→Int)→Pp→Bool) (S:Sp) (l:List Ev) (pre:List MoX) (W:World):Prop where
 ex:∃ A0 F0 A1 F1,IdS w0 Z A0 F0 A1 F1 W∧(∀ j,IdM B l 2 S.ss.length (pre.map (·.1)) j 0 A0 F0)∧(∀ j,IdM B l 3 S.cs.length (pre.map (·.1)) j 0 A1 F1)
theorem IdI.turn {w0:World} {Z D:Nat} {B:(Th→Int)→Pp→Bool} {S:Sp} {l:List Ev} {pre:List MoX} {A A':World} {row:Option Nat} (h:IdI w0 Z B S l pre A) (hD:w0.heap.size≤D) (hg:A.grownBy A' row) (ht:Turn 134 D A row):IdI w0 Z B S l pre A':=by
 obtain ⟨A0,F0,A1,F1,h1,h2,h3⟩:=h.ex
 exact ⟨A0,F0,A1,F1,h1.turn hD hg ht,h2,h3⟩
structure IdW (w0 W0:World) (Z PL XB NB nm:Nat) (now:List Pp) (C:Array Value) (A0 F0 A1 F1:List Int) (W:World):Prop where
 s:IdS w0 Z A0 F0 A1 F1 W
 pl:Blk W PL 134 C
 x:Boxed W XB 130 (.pointer (some ⟨PL,0,none⟩))
 n:Boxed W NB 131 (.map (some nm))
 nm:Mp ekP W nm (setM now)
 gl:GL [Z,Z+1,Z+3,Z+4] W0 W
section
variable {w0 W0 : World} {Z PL XB NB nm : Nat} {now : List Pp} {C : Array Value} {A0 F0 A1 F1 : List Int} {W W' : World}
theorem IdW.t0 (h:IdW w0 W0 Z PL XB NB nm now C A0 F0 A1 F1 W):TrS w0 PL XB NB nm (Z+5) (Z+2) (Z+3) Z now #[.map (some (Z+3)),.map (some (Z+4))] #[.map (some Z),.map (some (Z+1))] C (setM A0) (setM F0) W :=
 ⟨h.s.be,h.pl,h.x,h.n,h.nm,h.s.F,h.s.M,h.s.f0,h.s.m0⟩
theorem IdW.t1 (h:IdW w0 W0 Z PL XB NB nm now C A0 F0 A1 F1 W):TrS w0 PL XB NB nm (Z+5) (Z+2) (Z+4) (Z+1) now #[.map (some (Z+3)),.map (some (Z+4))] #[.map (some Z),.map (some (Z+1))] C (setM A1) (setM F1) W :=
 ⟨h.s.be,h.pl,h.x,h.n,h.nm,h.s.F,h.s.M,h.s.f1,h.s.m1⟩
theorem IdW.step0 (h:IdW w0 W0 Z PL XB NB nm now C A0 F0 A1 F1 W) (hz:w0.heap.size≤Z) (hn:Z+5<nm) (hg:G2 (Z+3) Z W W') {A F:List Int} (hm:Mp ekI W' Z (setM A)) (hf:Mp ekI W' (Z+3) (setM F)):IdW w0 W0 Z PL XB NB nm now C A F A1 F1 W':=by
 have k1:∀ {i:Nat} {t:TypeId} {cs:Array Value},Blk W i t cs→Blk W' i t cs:=fun hb=>(hg.block _ hb.lt (mp_not_blk h.s.f0 hb) (mp_not_blk h.s.m0 hb)).trans hb
 exact ⟨⟨h.s.be.trans (hg.below (by omega) hz h.s.be.size),k1 h.s.F,k1 h.s.M,hm,h.s.m1.same (hg.block _ h.s.m1.lt (by omega) (by omega)),hf,h.s.f1.same (hg.block _ h.s.f1.lt (by omega) (by omega))⟩,k1 h.pl,k1 (show Blk W XB _ #[_] from h.x),k1 (show Blk W NB _ #[_] from h.n),h.nm.same (hg.block _ h.nm.lt (by omega) (by omega)),h.gl.trans (.of2 hg (by simp) (by simp))⟩
theorem IdW.step1 (h:IdW w0 W0 Z PL XB NB nm now C A0 F0 A1 F1 W) (hz:w0.heap.size≤Z) (hn:Z+5<nm) (hg:G2 (Z+4) (Z+1) W W') {A F:List Int} (hm:Mp ekI W' (Z+1) (setM A)) (hf:Mp ekI W' (Z+4) (setM F)):IdW w0 W0 Z PL XB NB nm now C A0 F0 A F W':=by
 have k1:∀ {i:Nat} {t:TypeId} {cs:Array Value},Blk W i t cs→Blk W' i t cs:=fun hb=>(hg.block _ hb.lt (mp_not_blk h.s.f1 hb) (mp_not_blk h.s.m1 hb)).trans hb
 exact ⟨⟨h.s.be.trans (hg.below (by omega) (by omega) h.s.be.size),k1 h.s.F,k1 h.s.M,h.s.m0.same (hg.block _ h.s.m0.lt (by omega) (by omega)),hm,h.s.f0.same (hg.block _ h.s.f0.lt (by omega) (by omega)),hf⟩,k1 h.pl,k1 (show Blk W XB _ #[_] from h.x),k1 (show Blk W NB _ #[_] from h.n),h.nm.same (hg.block _ h.nm.lt (by omega) (by omega)),h.gl.trans (.of2 hg (by simp) (by simp))⟩
theorem Mp.is_map {κ:Type} {ek:κ→Value} {b:Nat} {l:List (κ × Value)} (h:Mp ek W b l):∃ es c,W.heap[b]?=some (.map es c):=by
 obtain ⟨es,c,hb,_⟩:=h
 exact ⟨es,c,hb⟩
theorem GL.rnd (h:GL [Z,Z+1,Z+3,Z+4] W W') (hs:IdS w0 Z A0 F0 A1 F1 W) (hz:w0.heap.size≤Z) {B:Nat} (hB:Z+5<B):KeepsFrom B W W'∧KpM w0.heap.size W W':=by
 refine ⟨h.from (fun k hk=>?_),h.kp (fun k hk=>?_) hs.be.size⟩
 ·simp only [List.mem_cons,List.mem_nil_iff,or_false] at hk
  omega
 ·simp only [List.mem_cons,List.mem_nil_iff,or_false] at hk
  rcases hk with rfl | rfl | rfl | rfl
  ·exact ⟨hz,hs.m0.is_map⟩
  ·exact ⟨by omega,hs.m1.is_map⟩
  ·exact ⟨by omega,hs.f0.is_map⟩
  ·exact ⟨by omega,hs.f1.is_map⟩
end
theorem idM_idL {B:(Th→Int)→Pp→Bool} {l:List Ev} (ha:Asc l) {k:Int} {n:Nat} {Dm Df L:List Int} (h:∀ j,IdM B l k n (momI l l.length) j 0 Dm Df) (hL:L.Pairwise (· < ·)) (hm:∀ x,x∈L ↔ x∈Dm):IdL B l k n L:=by
 refine ⟨hL,fun x=>?_⟩
 have e:∀ m,msA (momI l l.length) 0 0 m=momI l l.length:=fun m=>if_neg (Nat.not_lt_zero m)
 rw [hm x,(h 0).1 x]
 constructor
 ·rintro ⟨m,h1,h2,h3,h4⟩
  rw [e] at h3 h4
  exact ⟨m,h1,h2,(idleP_mom ha).2 ⟨h3,h4⟩⟩
 ·rintro ⟨m,h1,h2,h3⟩
  obtain ⟨h4,h5⟩:=(idleP_mom ha).1 h3
  exact ⟨m,h1,h2,by rw [e];exact h4,by rw [e];exact h5⟩
theorem MoP.low {w0:World} {v1 v2 v3 v4:Value} {fp:Nat→Value} {S:Sp} {PB:Nat} {l:List Ev} {pre:List MoX} {x:MoX} {W W':World} (h:MoP w0 v1 v2 v3 v4 fp S PB l pre x W) (hb:Below W.heap.size W W'):MoP w0 v1 v2 v3 v4 fp S PB l pre x W':=⟨h.lt,h.en,h.pr,h.py.below hb⟩
section
variable {F : Fence} {n : Nat} {P : Program}
theorem wpIn_range_Ta {α:Type} {g:Operand} {ps:Array Tmp} {assign body:Code} {Q:Exit→Act→World→Prop} {a:Act} {w:World}
  (hro:F.round=none) (h1:1≤n) {gf:Nat} {lb:Array Value} (hg:a.eval g = .func (.func gf) #[] lb) (hFg:F.fn gf) (eg:∀ args w,(callFunc gf args).run P w = .ok (.enter gf args) w)
  {encs:α→Array Value} {Kp:World→World→Prop} {Px:List α→α→World→Prop} {T:TypeId} {S:List α→Prop} (hseq:SeqT F (n-1) P gf lb encs Kp Px T S w)
  (hKt:∀ {A B C:World},Kp A B→Kp B C→Kp A C) (hKb:∀ (W:World) (l:Nat) (o o':Obj),w.heap.size≤l→W.heap[l]?=some o→ctlB o=true→Kp W (W.putObj l o')) (hKa:∀ (W:World) (o:Obj),w.heap.size≤W.heap.size→Kp W (W.alloc o)) (hps:∀ x,(encs x).size=ps.size)
  (I:List α→World→Prop) (hI:LastsT T w.heap.size I) (h0:I [] w) (fr:α→Nat→Act) (ob:α→Obj) (hob:∀ x,ctlB (ob x)=false)
  (hPx:∀ pre x (W:World) (l:Nat) (o o':Obj),w.heap.size≤l→W.heap[l]?=some o→ctlB o=true→Px pre x W→Px pre x (W.putObj l o'))
  (hPa:∀ pre x (W:World) (o:Obj),Px pre x W→Px pre x (W.alloc o))
  (hassign:∀ (l:Nat) (x:α) (W:World) (K:Act→World→Prop),K (fr x W.heap.size) (W.alloc (ob x)) →
   assign.wpIn (F.inRound l) (n-1-1) P (Exit.then K (fun _ _ _=>False)) { tmps:=(ps.zip (encs x)).foldl (fun t (p,v)=>t.setIfInBounds p v) a.tmps,defers:=[] } W)
  (hbody:∀ (l:Nat) (pre:List α) (x:α) (XB:Nat) (W:World),w.heap.size≤XB→W.heap[XB]?=some (ob x)→I pre W→Px pre x W→body.wpIn (F.inRound l) (n-1-1) P (rndT w.heap.size Kp I (pre++[x]) W) (fr x XB) W)
  (hdone:∀ (D:Nat) (xs:List α) (W:World),w.heap.size≤D→S xs→I xs W→W.heap[D]?=some (.deferred (some []))→Q .normal { a with defers:={ target:=.collected D,args:=#[] } :: a.defers } W) :
  (Code.rangeFunc g ps assign body).wpIn F n P Q a w :=
 wpIn_range_T hro h1 hg hFg eg hseq hKt hKb hps (fun pre W=>I pre W∧w.heap.size≤W.heap.size) (fun s A A' row hs hgr ht=>⟨hI s A A' row hs.1 hgr ht,Nat.le_trans hs.2 hgr.size⟩) ⟨h0,Nat.le_refl _⟩ (fun pre x a' W=>∃ XB,a'=fr x XB∧w.heap.size≤XB∧W.heap[XB]?=some (ob x)∧Px pre x W)
  (fun pre x a' W l o o' h1 h2 h3 h4=>by
   obtain ⟨XB,e1,e2,e3,e4⟩:=h4
   refine ⟨XB,e1,e2,?_,hPx pre x W l o o' h1 h2 h3 e4⟩
   refine (World.putObj_heap_other (fun e=>?_)).trans e3
   subst e
   rw [h2] at e3
   cases e3
   rw [hob] at h3
   cases h3)
  (fun l pre x W K hi hpx hK=>hassign l x W K (by
   have hb:Below W.heap.size W (W.alloc (ob x)):=(Below.refl _ W).alloc (Nat.le_refl _) _
   exact hK _ _ ⟨hb.size,fun k o _ hk _=>(hb.block k (Array.getElem?_eq_some_iff.1 hk).1).trans hk⟩ (hKa W _ hi.2) ⟨hI.new _ hi.1,Nat.le_trans hi.2 hb.size⟩ ⟨W.heap.size,rfl,hi.2,heap_alloc_new W _,hPa pre x W _ hpx⟩))
  (fun l pre x a' W hi hax=>by
   obtain ⟨XB,rfl,e2,e3,e4⟩:=hax
   refine wpIn_mono (hbody l pre x XB W e2 e3 hi.1 e4) ?_
   rintro e a3 W3 hp
   cases e with
   | normal=>exact ⟨hp.1,hp.2.1,hp.2.2,Nat.le_trans hi.2 hp.1.size⟩
   | _=>exact hp.elim)
  (fun D xs W hD hS hi hK=>hdone D xs W hD hS hi.1 hK)
end
end Go.Proofs.YthhfmppealmblaaGreatDoor
namespace Go.Proofs.YthhfmppealmblaaGreatDoor
open Go.RowKit Go.Shelf
attribute [local go_sem] Oper.semAt_some
theorem nodup_lenI {l m:List Int} (h:l.Nodup) (hs:∀ x∈l,x∈m):l.length≤m.length:=by
 induction l generalizing m with
 | nil=>exact Nat.zero_le _
 | cons a l ih =>
  rw [List.nodup_cons] at h
  have ha:=hs a (by simp)
  have h2:=ih h.2 (m:=m.erase a) (fun x hx=>(List.mem_erase_of_ne (fun e=>h.1 (by rw [← e];exact hx))).2 (hs x (by simp [hx])))
  rw [List.length_erase_of_mem ha] at h2
  have:0<m.length:=List.length_pos_of_mem ha
  rw [List.length_cons]
  omega
theorem idM_len {B:(Th→Int)→Pp→Bool} {l:List Ev} {k:Int} {n:Nat} {ms:List Nat} {j i:Nat} {Dm Df:List Int} (h:IdM B l k n ms j i Dm Df) (hn:Dm.Nodup):Dm.length≤n:=by
 have h1:=nodup_lenI (m:=(List.range n).map fun (x:Nat)=>(x:Int)) hn (fun x hx=>by
  obtain ⟨m,rfl,h2,_⟩:=(h.1 x).1 hx
  exact List.mem_map.2 ⟨m,List.mem_range.2 h2,rfl⟩)
 rwa [List.length_map,List.length_range] at h1
theorem try0_any (v1 v2 v3 v4:Value) (S:Sp) (hc:(checkP S).2=0) (fp:Nat→Value) (PB:Nat) (B:(Th→Int)→Pp→Bool) (hB:SndIs S B) (l:List Ev) (ms:List Nat) (j i:Nat) (hi:i<S.ss.length) (f:Th→Int) (hfe:onV (l.take (j+1))=f) (hf:OnOk S f) (tk:Int) (PL XB NB nm Z:Nat) (now:List Pp) (hnow:∀ p,p∈now ↔ Snd S f p) (cs:Array Value) (hnz:Z+5<nm) (A0 F0 A1 F1:List Int) (hId:IdM B l 2 S.ss.length ms j i A0 F0) (w0 W0 W:World) (hon:OnI f cs) (hsp:SpRd w0 v1 v2 v3 v4 fp S) (hpb:Blk w0 PB 27 #[v1,v2,v3,v4]) (hz:w0.heap.size≤Z) (hz3:w0.heap.size≤PL) (hW:IdW w0 W0 Z PL XB NB nm now (plC PB cs tk) A0 F0 A1 F1 W) :
  Calls Tryz.prog 64 #[.int .i64 0,.int .i64 i,.pointer (some ⟨PL,769+i,none⟩),.pointer (some ⟨Z+5,0,none⟩),.pointer (some ⟨Z+2,0,none⟩),.pointer (some ⟨NB,0,none⟩),.pointer (some ⟨XB,0,none⟩)] W (TryE B l 2 S.ss.length ms j i (Z+3) Z W):=by
 have hss:=(spGood hc).ss
 have h:=try_any v1 v2 v3 v4 S hc fp PB B hB l 0 S.ss.length (by omega) ms j i hi f hfe hf tk PL (768+i) (onIx_stop (by omega)) now hnow (Z+5) (Z+2) NB XB nm (Z+3) Z _ _ cs rfl rfl (by omega) (by omega) (by omega) A0 F0 hId w0 W hon hsp hpb (by omega) hz hz3 hW.t0
 rw [show 1+(768+i)=769+i by omega] at h
 exact h
theorem try1_any (v1 v2 v3 v4:Value) (S:Sp) (hc:(checkP S).2=0) (fp:Nat→Value) (PB:Nat) (B:(Th→Int)→Pp→Bool) (hB:SndIs S B) (l:List Ev) (ms:List Nat) (j i:Nat) (hi:i<S.cs.length) (f:Th→Int) (hfe:onV (l.take (j+1))=f) (hf:OnOk S f) (tk:Int) (PL XB NB nm Z:Nat) (now:List Pp) (hnow:∀ p,p∈now ↔ Snd S f p) (cs:Array Value) (hnz:Z+5<nm) (A0 F0 A1 F1:List Int) (hId:IdM B l 3 S.cs.length ms j i A1 F1) (w0 W0 W:World) (hon:OnI f cs) (hsp:SpRd w0 v1 v2 v3 v4 fp S) (hpb:Blk w0 PB 27 #[v1,v2,v3,v4]) (hz:w0.heap.size≤Z) (hz3:w0.heap.size≤PL) (hW:IdW w0 W0 Z PL XB NB nm now (plC PB cs tk) A0 F0 A1 F1 W) :
  Calls Tryz.prog 64 #[.int .i64 1,.int .i64 i,.pointer (some ⟨PL,849+i,none⟩),.pointer (some ⟨Z+5,0,none⟩),.pointer (some ⟨Z+2,0,none⟩),.pointer (some ⟨NB,0,none⟩),.pointer (some ⟨XB,0,none⟩)] W (TryE B l 3 S.cs.length ms j i (Z+4) (Z+1) W):=by
 have hcs:=(spGood hc).cs
 have h:=try_any v1 v2 v3 v4 S hc fp PB B hB l 1 S.cs.length (by omega) ms j i hi f hfe hf tk PL (848+i) (onIx_coupler (by omega)) now hnow (Z+5) (Z+2) NB XB nm (Z+4) (Z+1) _ _ cs rfl rfl (by omega) (by omega) (by omega) A1 F1 hId w0 W hon hsp hpb (by omega) (by omega) hz3 hW.t1
 rw [show 1+(848+i)=849+i by omega] at h
 exact h
set_option maxRecDepth 100000 in
set_option maxHeartbeats 12800000 in
theorem aidle_in (n:Nat) (hn:6≤n) (v1 v2 v3 v4:Value) (S:Sp) (ok:SpOk S) (fp:Nat→Value) (l:List Ev) (vl:Value) (B:(Th→Int)→Pp→Bool) (hB:SndIs S B) (w:World) (t:Tabs w) (hsp:SpRd w v1 v2 v3 v4 fp S) (hlv:ARd w vl 5 (l.map evC)) (hE:audE S l=0) :
  CallsIn Fence.wide n Tryz.prog 33 #[.agg #[v1,v2,v3,v4],vl] w (IdR S B l w):=by
 obtain ⟨hc,hR⟩:=audE_parts hE
 obtain ⟨hll,hgood⟩:=(recE_iff hc).1 hR
 have hasc:Asc l:=(recE_ok hR).asc
 have hmm:=@run_makeMap Tryz.prog
 obtain ⟨al,cl,evl⟩:=hlv.evForm
 subst evl
 obtain ⟨_,_,⟨a3,c3,rfl⟩,⟨a4,c4,rfl⟩⟩:=hsp.forms
 have hsg:=spGood hc
 have hss:=hsg.ss
 have hcs:=hsg.cs
 have hal:=(Below.refl _ w).alloc (Nat.le_refl w.heap.size) (.cells #[v1,v2,.slice a3 S.ss.length c3,.slice a4 S.cs.length c4] 27)
 have hal1:Below w.heap.size w ((w.alloc (.cells #[v1,v2,.slice a3 S.ss.length c3,.slice a4 S.cs.length c4] 27)).alloc (.cells #[.slice al l.length cl] 28)):=hal.alloc (by simp) _
 have hk1:=(Blk.new w 27 #[v1,v2,.slice a3 S.ss.length c3,.slice a4 S.cs.length c4]).alloc (.cells #[.slice al l.length cl] 28)
 have hk4:=Blk.new (w.alloc (.cells #[v1,v2,.slice a3 S.ss.length c3,.slice a4 S.cs.length c4] 27)) 28 #[.slice al l.length cl]
 rw [World.size_alloc] at hk4
 have HCK:=Lib.hid (acheck_any v1 v2 _ _ S ok fp w.heap.size _ [(.slice al l.length cl,l)] _ (t.below hal1) (hsp.later hal1) hk1 (by simp) (fun x hx=>by rw [List.mem_singleton.1 hx];exact Nat.le_trans hll (by omega)) (evsR_one hk4 (hlv.later hal1)))
 rw [show ([(.slice al l.length cl,l)]:List (Value × List Ev)).map (·.2)=[l] from rfl,chkE_one,hE] at HCK
 have hba:Below (w.alloc (.cells #[v1,v2,.slice a3 S.ss.length c3,.slice a4 S.cs.length c4] 27)).heap.size (w.alloc (.cells #[v1,v2,.slice a3 S.ss.length c3,.slice a4 S.cs.length c4] 27)) ((w.alloc (.cells #[v1,v2,.slice a3 S.ss.length c3,.slice a4 S.cs.length c4] 27)).alloc (.cells #[.slice al l.length cl] 28)):=(Below.refl _ _).alloc (Nat.le_refl _) _
 have HBA:=Lib.hid hba
 have HKA:=Lib.hid (Blk.new w 27 #[v1,v2,.slice a3 S.ss.length c3,.slice a4 S.cs.length c4])
 have HSA:=Lib.hid (hsp.later hal)
 have HLA:=Lib.hid (hlv.later hal)
 have HZA:=Lib.hid (show (w.alloc (.cells #[v1,v2,.slice a3 S.ss.length c3,.slice a4 S.cs.length c4] 27)).heap.size=w.heap.size+1 from World.size_alloc ..)
 have HAW:=Lib.hid hal
 have HG:=Lib.hid hgood
 have HE:=Lib.hid hE
 have HAS:=Lib.hid hasc
 clear hba hal hal1 hk1 hk4 hsp hlv hgood ok t hE hR hasc
 refine callsIn_of_wp_marks Tryz.func33 rfl trivial ?_ rfl
 simp only [Tryz.ntmps33,List.size_toArray,List.length_cons,List.length_nil,Nat.reduceAdd,Nat.reduceSub,Array.replicate_succ,Array.replicate_zero,List.push_toArray,List.append_toArray,List.nil_append,List.cons_append]
 gi_wp2_with fail
 obtain ⟨Wa,hWa⟩:∃ Wa,w.alloc (.cells #[v1,v2,.slice a3 S.ss.length c3,.slice a4 S.cs.length c4] 27)=Wa:=⟨_,rfl⟩
 rw [hWa] at HBA HKA HSA HLA HZA HAW HCK ⊢
 clear hWa
 generalize Wa.alloc (.cells #[.slice al l.length cl] 28)=W0 at *
 refine ⟨trivial,(fun _=>by omega),?_⟩
 refine (callsIn_wide.2 HCK.out).mono ?_
 rintro e W1 ⟨rfl,hb⟩
 have hba1:=below_step HBA.out hb
 have HI1:=Lib.hid (IdS.start hba1)
 have HB1:=Lib.hid (below_step hba1 (idW_below W1))
 have HZ:=Lib.hid hba1.size
 have HZW:=Lib.hid (show (idW W1).heap.size=W1.heap.size+6 by unfold idW;simp only [World.size_alloc])
 clear hb hba1 HCK HBA
 gi_upto_region 6 with fail
 rw [show (((((W1.alloc (.map #[] 0)).alloc (.map #[] 0)).alloc (.cells #[.map (some W1.heap.size),.map (some (W1.heap.size+1))] 140)).alloc (.map #[] 0)).alloc (.map #[] 0)).alloc (.cells #[.map (some (W1.heap.size+3)),.map (some (W1.heap.size+4))] 140)=idW W1 from rfl]
 obtain ⟨W2,hW2⟩:∃ W2,idW W1=W2:=⟨_,rfl⟩
 rw [hW2] at HI1 HB1 HZW ⊢
 clear hW2
 obtain ⟨Z,hZz⟩:∃ Z,W1.heap.size=Z:=⟨_,rfl⟩
 rw [hZz] at HI1 HZ HZW ⊢
 clear hZz
 rw [show Z+1+1+1+1+1=Z+5 from rfl,show Z+1+1+1+1=Z+4 from rfl,show Z+1+1+1=Z+3 from rfl,show Z+1+1=Z+2 from rfl]
 gi_wp2_with fail
 refine ⟨trivial,(fun _=>by omega),?_⟩
 refine (callsIn_wide.2 (moments_any al l.length cl w.heap.size _)).mono ?_
 rintro e W4 ⟨rfl,hbs,hbl,hb4⟩
 have HB4:=Lib.hid (below_step HB1.out hb4)
 have hsz4:=HB4.out.size
 have hZ4:Z+6≤W4.heap.size:=by have h1:=hb4.size;have h2:=HZW.out;omega
 have HI0:=Lib.hid (show IdI Wa Z B S l [] W4 from ⟨[],[],[],[],HI1.out.below hb4,fun j=>IdM.zero j,fun j=>IdM.zero j⟩)
 have HSEQ:=Lib.hid (moments_seq (n-1) (by omega) Wa v1 v2 _ _ fp S hc w.heap.size l al cl hll HG.out HSA.out HKA.out HLA.out _ _ W4 HB4.out hbs hbl)
 clear hbs hbl hb4 HI1 HB1
 gi_wp2_with fail
 refine' wpIn_range_Ta rfl (by omega) (gf:=89) (lb:=#[.pointer (some ⟨W2.heap.size,0,none⟩),.pointer (some ⟨W2.heap.size+1,0,none⟩)]) rfl trivial (enters_of Tryz.func89 (by kernel_rfl) rfl) HSEQ.out (fun h k=>h.trans k) (fun W k o o' h1 h2 h3=>KpM.put (Nat.le_trans hsz4 h1) h2 h3) (fun W o h1=>KpM.of_below ((Below.refl _ W).alloc (Nat.le_refl _) o) (Nat.le_trans hsz4 h1)) (fun _=>rfl) (IdI Wa Z B S l) (fun s A A' row hs hgr ht=>hs.turn hsz4 hgr ht) HI0.out _ (fun x => .cells #[.pointer (some ⟨x.2,0,none⟩)] 130) (fun _=>rfl) (fun pre x W k o o' h1 h2 h3 h4=>h4.put (Nat.le_trans hsz4 h1) h2 h3) (fun pre x W o h=>h.low ((Below.refl _ W).alloc (Nat.le_refl _) o)) ?assign ?body ?done
 case assign =>
  intro ly x W K hK
  obtain ⟨XB,hXB⟩:∃ XB,W.heap.size=XB:=⟨_,rfl⟩
  rw [hXB] at hK
  dsimp only [moE]
  gi_wp2
  try rw [hXB]
  exact hK
 case body =>
  intro ly pre x XB W hsX hX0 hI hP
  obtain ⟨i,PL⟩:=x
  have hil:=hP.lt
  dsimp only at hil
  obtain ⟨tk,htk⟩:∃ z,(l.getD i ev0).1=z:=⟨_,rfl⟩
  obtain ⟨f,hfe⟩:∃ f,onV (l.take (i+1))=f:=⟨_,rfl⟩
  have hpx:=hP.py.px
  dsimp only at hpx
  rw [htk,hfe] at hpx
  have hf:OnOk S f:=by rw [← hfe];exact onOk_upto hc (by omega) (fun j hj=>HG.out j (by omega))
  obtain ⟨A0,F0,A1,F1,hs,hm0,hm1⟩:=hI.ex
  obtain ⟨cs,hon,hpl⟩:=hpx.ex
  have hplz:Wa.heap.size≤PL:=hP.py.new
  have htk2:(l[i]?.getD ev0).1=tk:=by rw [← htk,List.getD_eq_getElem?_getD]
  try dsimp only
  try rw [htk2]
  have HX:=Lib.hid (show Boxed W XB 130 (.pointer (some ⟨PL,0,none⟩)) from hX0)
  have HSO:=Lib.hid (sounding_any v1 v2 _ _ S hc fp w.heap.size PL f tk hf W (HSA.out.later hs.be) (HKA.out.below hs.be) hpx)
  have HFE:=Lib.hid hfe
  have HON:=Lib.hid hon
  have HP5:=Lib.hid hpl
  have HS:=Lib.hid hs
  have HM0:=Lib.hid (hm0 i)
  have HM1:=Lib.hid (hm1 i)
  have hXZ:Z+6≤XB:=by omega
  have cX:W.cell? ⟨XB,0,none⟩=some (.pointer (some ⟨PL,0,none⟩)):=HX.out.cell
  clear htk2 htk hfe hpx hs hm0 hm1 hon hpl hI hP hX0
  gi_wp2_with fail
  refine ⟨trivial,(fun _=>by omega),?_⟩
  refine ((callsIn_wide.2 HSO.out).inRound ly).mono ?_
  rintro e W6 ⟨nm,now,rfl,hnm,hmp,hnd,hmem,hb6⟩
  have hn7:Boxed (W6.alloc (.cells #[.map (some nm)] 131)) W6.heap.size 131 (.map (some nm)):=Boxed.new W6 _ _
  have hb7:Below W6.heap.size W6 (W6.alloc (.cells #[.map (some nm)] 131)):=(Below.refl _ W6).alloc (Nat.le_refl _) _
  have hb67:=hb6.trans (hb7.mono hb6.size)
  have hnmZ:Z+5<nm:=by have:=HX.out.lt;omega
  have HW:=Lib.hid (show IdW Wa W Z PL XB W6.heap.size nm now (plC w.heap.size cs tk) A0 F0 A1 F1 (W6.alloc (.cells #[.map (some nm)] 131)) from ⟨HS.out.below hb67,HP5.out.below hb67,(hb67.block _ HX.out.lt).trans HX.out,hn7,hmp.below hb7,GL.of_below hb67⟩)
  have HME:=Lib.hid hmem
  have s2:(W6.alloc (.cells #[.map (some nm)] 131)).cell? ⟨w.heap.size,2,none⟩=some (.slice a3 S.ss.length c3):=(HKA.out.below HW.out.s.be).cell 2
  have HF5:=Lib.hid hf
  clear hnm hmp hnd hmem hb6 hn7 hb7 hb67 HSO HX HP5 cX hf
  gi_upto_region 9 with fail
  obtain ⟨W7,hW7⟩:∃ W7,W6.alloc (.cells #[.map (some nm)] 131)=W7:=⟨_,rfl⟩
  rw [hW7] at HW s2 ⊢
  clear hW7
  obtain ⟨NB,hNB⟩:∃ NB,W6.heap.size=NB:=⟨_,rfl⟩
  rw [hNB] at HW ⊢
  clear hNB
  gi_wp2_with fail
  gi_loopw [38] (fun x wr=>∃ (i':Nat) (A F:List Int),i'≤S.ss.length∧x = .int .i64 i'∧RowKit.Hid (IdW Wa W Z PL XB NB nm now (plC w.heap.size cs tk) A F A1 F1 wr)∧RowKit.Hid (IdM B l 2 S.ss.length (pre.map (·.1)) i i' A F)) (fun x _=>S.ss.length-(intOf x).toNat)
  case atStart=>exact ⟨0,A0,F0,Nat.zero_le _,rfl,HW,HM0⟩
  case round =>
   clear HW HM0 s2
   obtain ⟨i',A,F,hi',rfl,hW,hM⟩:=hrel
   by_cases hil2:i'<S.ss.length
   ·have hi2:(i':Int)<(S.ss.length:Int):=by omega
    have h80:(i':Int)<80:=by omega
    have cX2:wr.cell? ⟨XB,0,none⟩=some (.pointer (some ⟨PL,0,none⟩)):=hW.out.x.cell
    have HTR:=Lib.hid (try0_any v1 v2 _ _ S hc fp w.heap.size B hB l (pre.map (·.1)) i i' hil2 f HFE.out HF5.out tk PL XB NB nm Z now HME.out cs hnmZ A F A1 F1 hM.out Wa W wr HON.out HSA.out HKA.out HZ.out hplz hW.out)
    gi_wp2_with fail
    refine ⟨trivial,(fun _=>by omega),?_⟩
    refine ((callsIn_wide.2 HTR.out).inRound ly).mono ?_
    rintro e wt ⟨rfl,hg,A',F',hm',hf',hM'⟩
    have HW':=Lib.hid (hW.out.step0 HZ.out hnmZ hg hm' hf')
    have HM':=Lib.hid hM'
    clear hg hm' hf' hM' HTR cX2 hM hW
    gi_wp2
    go_roundw
    case rel=>exact ⟨i'+1,A',F',by omega,by go_num,HW',HM'⟩
    case measure=>simp [intOf];omega
   have hi2:¬ (i':Int)<(S.ss.length:Int):=by omega
   have hie:i'=S.ss.length:=by omega
   subst hie
   rename World=>W8
   have s3:W8.cell? ⟨w.heap.size,3,none⟩=some (.slice a4 S.cs.length c4):=(HKA.out.below hW.out.s.be).cell 3
   have HM8:=Lib.hid hM.out
   gi_wp2_with fail
   gi_loopw [53] (fun x wr=>∃ (i':Nat) (A' F':List Int),i'≤S.cs.length∧x = .int .i64 i'∧RowKit.Hid (IdW Wa W Z PL XB NB nm now (plC w.heap.size cs tk) A F A' F' wr)∧RowKit.Hid (IdM B l 3 S.cs.length (pre.map (·.1)) i i' A' F')) (fun x _=>S.cs.length-(intOf x).toNat)
   case atStart=>exact ⟨0,A1,F1,Nat.zero_le _,rfl,hW,HM1⟩
   case round =>
    clear hW HM1 s3 hM
    obtain ⟨i',A',F',hi',rfl,hW,hM⟩:=hrel
    by_cases hil2:i'<S.cs.length
    ·have hi3:(i':Int)<(S.cs.length:Int):=by omega
     have h24:(i':Int)<24:=by omega
     have cX2:wr.cell? ⟨XB,0,none⟩=some (.pointer (some ⟨PL,0,none⟩)):=hW.out.x.cell
     have HTR:=Lib.hid (try1_any v1 v2 _ _ S hc fp w.heap.size B hB l (pre.map (·.1)) i i' hil2 f HFE.out HF5.out tk PL XB NB nm Z now HME.out cs hnmZ A F A' F' hM.out Wa W wr HON.out HSA.out HKA.out HZ.out hplz hW.out)
     gi_wp2_with fail
     refine ⟨trivial,(fun _=>by omega),?_⟩
     refine ((callsIn_wide.2 HTR.out).inRound ly).mono ?_
     rintro e wt ⟨rfl,hg,A2,F2,hm',hf',hM'⟩
     have HW':=Lib.hid (hW.out.step1 HZ.out hnmZ hg hm' hf')
     have HM':=Lib.hid hM'
     clear hg hm' hf' hM' HTR cX2 hM hW
     gi_wp2
     go_roundw
     case rel=>exact ⟨i'+1,A2,F2,by omega,by go_num,HW',HM'⟩
     case measure=>simp [intOf];omega
    have hi3:¬ (i':Int)<(S.cs.length:Int):=by omega
    have hie:i'=S.cs.length:=by omega
    subst hie
    have HF:=Lib.hid (show KeepsFrom W4.heap.size W wr∧KpM Wa.heap.size W wr∧IdI Wa Z B S l (pre++[(i,PL)]) wr from by
     obtain ⟨q1,q2⟩:=hW.out.gl.rnd HS.out HZ.out (B:=W4.heap.size) (by omega)
     refine ⟨q1,q2,A,F,A',F',hW.out.s,fun j=>?_,fun j=>?_⟩
     ·rw [List.map_append,List.map_cons,List.map_nil]
      exact HM8.out.next j
     ·rw [List.map_append,List.map_cons,List.map_nil]
      exact hM.out.next j)
    gi_wp2
    exact HF.out
 case done =>
  intro D xs W hD hS hI hK
  obtain ⟨A0,F0,A1,F1,hs,hm0,hm1⟩:=hI.ex
  rw [hS] at hm0 hm1
  have hna:=hs.m0.nodup
  have hnb:=hs.m1.nodup
  rw [setM_keys] at hna hnb
  have hla:=idM_len (hm0 0) hna
  have hlb:=idM_len (hm1 0) hnb
  have HZ0:=Lib.hid (fun (W':World) (hb:Below W.heap.size W W')=>sorted_any Z (setM A0) W' (hs.m0.below hb) (by unfold setM;rw [List.length_map];omega))
  have HZ1:=Lib.hid (fun (W':World) (hb:Below W.heap.size W W')=>sorted_any (Z+1) (setM A1) W' (hs.m1.below hb) (by unfold setM;rw [List.length_map];omega))
  have cM0:W.cell? ⟨Z+2,0,none⟩=some (.map (some Z)):=hs.M.cell 0
  have cM1:W.cell? ⟨Z+2,1,none⟩=some (.map (some (Z+1))):=hs.M.cell 1
  have HWB:=Lib.hid (below_step HAW.out (hs.be.mono (Nat.le_refl _)))
  have HM0:=Lib.hid hm0
  have HM1:=Lib.hid hm1
  have HK:=Lib.hid hK
  have hdr:=hold2 (W0:=W) ⟨Below.refl _ _,cM0,cM1⟩ ((Below.refl _ W).drew)
  clear hm0 hm1 hna hnb hla hlb hs hI hS hK
  try dsimp only
  gi_upto_region 20 with fail
  refine wpIn_normal (wpIn_wide.2 ?_)
  go_region_held3 (fun w'=>Below W.heap.size W w'∧w'.cell? ⟨Z+2,0,none⟩=some (.map (some Z))∧w'.cell? ⟨Z+2,1,none⟩=some (.map (some (Z+1)))) (first | exact hdr | exact hn1 | exact hn2 | assumption | fail) (first | (go_at_call_of 66 (Value.map (some Z));refine (HZ0.out _ hdr.1).mono ?_;rintro e w5 ⟨vs,L,rfl,hrs,hps,hms,hb5⟩;have hn1:=hold2 hdr hb5) | (go_at_call 66;(refine (HZ1.out _ hn1.1).mono ?_);rintro e w6 ⟨vc,M,rfl,hrc,hpc,hmc,hb6⟩;have hn2:=hold2 hn1 hb6) | fail)
  have hDl:=(Array.getElem?_eq_some_iff.1 HK.out).1
  have hKD:w6.heap[D]?=some (.deferred (some [])):=(hn2.1.block D hDl).trans HK.out
  have gP:=grownBy_putObj' w6 D (.deferred none)
  have hne:∀ {v:Value} {n:Nat} {b:Nat} {xs:List Value},w6.ownsRow b 3 1 v n xs→v.ownBlock=none∨v.ownBlock≠some D:=fun h=>row_ne h (fun r e=>by cases e;exact ⟨_,hKD,rfl⟩)
  have hwz:=HWB.out.size
  have hr1:(w6.putObj D (.deferred none)).ownsRow w.heap.size 3 1 vs L.length (iCs L):=(row_base (row_later hrs hb6) hwz).kept gP (hne (row_later hrs hb6))
  have hr2:(w6.putObj D (.deferred none)).ownsRow w.heap.size 3 1 vc M.length (iCs M):=(row_base hrc (Nat.le_trans hwz hn1.1.size)).kept gP (hne hrc)
  rw [setM_keys] at hms hmc
  have HKD:=Lib.hid hKD
  have HF:=Lib.hid (show IdR S B l w (.returned (.tuple #[vs,vc,.int .i64 0])) (w6.putObj D (.deferred none)) from ⟨vs,vc,L,M,by rw [HE.out],hr1,hr2,fun _=>⟨idM_idL HAS.out HM0.out hps hms,idM_idL HAS.out HM1.out hpc hmc⟩,fun h=>absurd HE.out h,(below_step HWB.out hn2.1).grown gP (below_step HWB.out hn2.1).size (fun r e=>by cases e;have:=HZA.out;omega)⟩)
  clear hdr hn1 hn2 hb5 hb6 hrs hps hms hrc hpc hmc hDl hKD gP hne hwz hr1 hr2 cM0 cM1
  gi_wp2_with fail
  exact mark_retC HKD.out rfl (by simp [results,Tryz.results33,go_sem]) HF.out
set_option maxRecDepth 100000 in
set_option maxHeartbeats 3200000 in
theorem aidle_bad (v1 v2 v3 v4:Value) (S:Sp) (ok:SpOk S) (fp:Nat→Value) (l:List Ev) (vl:Value) (B:(Th→Int)→Pp→Bool) (w:World) (t:Tabs w) (hsp:SpRd w v1 v2 v3 v4 fp S) (hlv:ARd w vl 5 (l.map evC)) (hl:l.length≤50000) (hE:audE S l≠0) :
  Calls Tryz.prog 33 #[.agg #[v1,v2,v3,v4],vl] w (IdR S B l w):=by
 obtain ⟨al,cl,evl⟩:=hlv.evForm
 subst evl
 have hal:=(Below.refl _ w).alloc (Nat.le_refl w.heap.size) (.cells #[v1,v2,v3,v4] 27)
 have hal1:Below w.heap.size w ((w.alloc (.cells #[v1,v2,v3,v4] 27)).alloc (.cells #[.slice al l.length cl] 28)):=hal.alloc (by simp) _
 have hk1:=(Blk.new w 27 #[v1,v2,v3,v4]).alloc (.cells #[.slice al l.length cl] 28)
 have hk4:=Blk.new (w.alloc (.cells #[v1,v2,v3,v4] 27)) 28 #[.slice al l.length cl]
 rw [World.size_alloc] at hk4
 have HCK:=Lib.hid (acheck_any v1 v2 v3 v4 S ok fp w.heap.size _ [(.slice al l.length cl,l)] _ (t.below hal1) (hsp.later hal1) hk1 (by simp) (fun x hx=>by rw [List.mem_singleton.1 hx];exact Nat.le_trans hl (by omega)) (evsR_one hk4 (hlv.later hal1)))
 rw [show ([(.slice al l.length cl,l)]:List (Value × List Ev)).map (·.2)=[l] from rfl,chkE_one] at HCK
 have HAL:=Lib.hid hal1
 obtain ⟨e0,he0⟩:∃ e0,audE S l=e0:=⟨_,rfl⟩
 rw [he0] at HCK hE
 have HE:=Lib.hid he0
 have HNE:=Lib.hid hE
 have q1:(e0==0)=false:=by simpa using hE
 clear hal hal1 hk1 hk4 hsp hlv ok t he0 hE
 go_enter Tryz.func33,Tryz.ntmps33
 go_wp2_with fail
 generalize (w.alloc (.cells #[v1,v2,v3,v4] 27)).alloc (.cells #[.slice al l.length cl] 28)=W0 at *
 refine (HCK.out).mono ?_
 rintro e W ⟨rfl,hb⟩
 have HB3:=Lib.hid (below_step HAL.out hb)
 clear hb HCK HAL
 go_wp2_with fail
 refine bodyPost_ret (v:=.tuple #[.slice none 0 0,.slice none 0 0,.int .i64 e0]) (by simp [results,Tryz.results33,go_sem]) rfl ⟨.slice none 0 0,.slice none 0 0,[],[],by rw [HE.out],World.ownsRow_nil _ _ _ _,World.ownsRow_nil _ _ _ _,fun h=>absurd (HE.out.symm.trans h) HNE.out,fun _=>⟨rfl,rfl⟩,HB3.out⟩
theorem aidle_any (v1 v2 v3 v4:Value) (S:Sp) (ok:SpOk S) (fp:Nat→Value) (l:List Ev) (vl:Value) (B:(Th→Int)→Pp→Bool) (hB:SndIs S B) (w:World) (t:Tabs w) (hsp:SpRd w v1 v2 v3 v4 fp S) (hlv:ARd w vl 5 (l.map evC)) (hl:l.length≤50000) :
  Calls Tryz.prog 33 #[.agg #[v1,v2,v3,v4],vl] w (IdR S B l w):=by
 by_cases hE:audE S l=0
 ·exact callsIn_wide.1 (aidle_in 6 (Nat.le_refl 6) v1 v2 v3 v4 S ok fp l vl B hB w t hsp hlv hE)
 ·exact aidle_bad v1 v2 v3 v4 S ok fp l vl B w t hsp hlv hl hE
end Go.Proofs.YthhfmppealmblaaGreatDoor
