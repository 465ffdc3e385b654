/-
  A part of the proof: VM,HC.
-/
import Derived.Test.YteflhbfgpknabaaGreatDoorL21
import Derived.Test.YteflhbfgpknabaaGreatDoorL22
import Derived.Test.YteflhbfgpknabaaGreatDoorL20
import Derived.Test.YteflhbfgpknabaaGreatDoorL01
import Derived.Below
set_option maxRecDepth 100000
set_option maxHeartbeats 6400000
namespace Go.Proofs.YteflhbfgpknabaaGreatDoor
open Go.Lib (hid)
open Go.RowKit Go.Shelf
theorem ins_asc {l:List Pp} {p:Pp} {i:Nat} (hs:l.Pairwise ppLt) (b:BsI l p i i) (hn:p ∉ l):(l.take i++p :: l.drop i).Pairwise ppLt:=by
 rw [List.pairwise_append,List.pairwise_cons]
 have hup:∀ q∈l.drop i,ppLt p q:=fun q hq=>by
  obtain ⟨j,hj,rfl⟩:=List.getElem_of_mem hq
  rw [List.length_drop] at hj
  rw [List.getElem_drop]
  have h1:=b.hi (i+j) (by omega) (by omega)
  have h2:¬ (l[i+j].1=p.1∧l[i+j].2=p.2):=fun h=>hn (by rw [← show l[i+j]=p from Prod.ext h.1 h.2];exact List.getElem_mem _)
  unfold ppLt at *
  omega
 refine ⟨hs.sublist (List.take_sublist _ _),⟨hup,hs.sublist (List.drop_sublist _ _)⟩,fun a ha c hc=>?_⟩
 obtain ⟨j,hj,rfl⟩:=List.getElem_of_mem ha
 rw [List.length_take] at hj
 rw [List.getElem_take]
 have h1:=b.lo j (by omega) (by omega)
 rcases List.mem_cons.1 hc with rfl | hc
 ·exact h1
 ·exact ppLt_trans h1 (hup c hc)
theorem mem_ins {l:List Pp} {p x:Pp} {i:Nat}:x∈l.take i++p :: l.drop i↔x∈l∨x=p:=by
 rw [List.mem_append,List.mem_cons]
 conv=>rhs;rw [← List.take_append_drop i l,List.mem_append]
 constructor
 ·rintro (h | h | h)
  ·exact .inl (.inl h)
  ·exact .inr h
  ·exact .inl (.inr h)
 ·rintro ((h | h) | h)
  ·exact .inl h
  ·exact .inr (.inr h)
  ·exact .inr (.inl h)
theorem mem_del {l:List Pp} (hs:l.Pairwise ppLt) {i:Nat} (hi:i<l.length) (x:Pp):x∈l.take i++l.drop (i+1)↔x∈l∧x≠l[i]:=by
 have h:l=l.take i++l[i] :: l.drop (i+1):=by rw [← List.drop_eq_getElem_cons hi,List.take_append_drop]
 have hs':=hs
 rw [h,List.pairwise_append,List.pairwise_cons] at hs'
 obtain ⟨_,⟨h2,_⟩,h3⟩:=hs'
 have irr:∀ q:Pp,¬ ppLt q q:=fun q=>by unfold ppLt;omega
 have hm:x∈l↔x∈l.take i∨x=l[i]∨x∈l.drop (i+1):=by
  conv=>lhs;rw [h,List.mem_append,List.mem_cons]
 rw [hm,List.mem_append]
 constructor
 ·rintro (q | q)
  ·exact ⟨.inl q,fun e=>irr x (by have:=h3 x q l[i] List.mem_cons_self;rwa [← e] at this)⟩
  ·exact ⟨.inr (.inr q),fun e=>irr x (by have:=h2 x q;rwa [← e] at this)⟩
 ·rintro ⟨q | q | q,hne⟩
  ·exact .inl q
  ·exact absurd q hne
  ·exact .inr q
theorem del_asc {l:List Pp} (hs:l.Pairwise ppLt) (i:Nat):(l.take i++l.drop (i+1)).Pairwise ppLt:=by
 rw [List.pairwise_append]
 refine ⟨hs.sublist (List.take_sublist _ _),hs.sublist (List.drop_sublist _ _),fun a ha c hc=>?_⟩
 obtain ⟨j,hj,rfl⟩:=List.getElem_of_mem ha
 obtain ⟨k,hk,rfl⟩:=List.getElem_of_mem hc
 rw [List.length_take] at hj
 rw [List.length_drop] at hk
 rw [List.getElem_take,List.getElem_drop]
 exact List.pairwise_iff_getElem.1 hs _ _ _ _ (by omega)
theorem owns_setI {W:World} {base size n B i:Nat} {t T:TypeId} {u:Value} {xs:List Value} {cs:Array Value} (h:W.ownsRow base t size u n xs) {v:Value} (hB:Blk W B T cs) (ht:T≠t):(W.setCell ⟨B,i,none⟩ v).ownsRow base t size u n xs:=by
 obtain ⟨h1,h2⟩:=h
 refine ⟨h1,h2.imp id ?_⟩
 rintro ⟨g,cap,cur,e1,e2,e3,e4⟩
 refine ⟨g,cap,cur,e1,e2,?_,e4⟩
 rw [Below.heap_setCell W ⟨B,i,none⟩ v g (fun e=>ht (by
  have h5:W.heap[B]?=_:=hB
  rw [show g=B from e,h5] at e3
  cases e3
  rfl))]
 exact e3
def HrsR (m:List Pp) (w:World) (e:Ending) (w':World):Prop:=∃ v,e = .returned v∧w'.ownsRow w.heap.size 78 2 v m.length (ppCs m)∧Below w.heap.size w w'
theorem hearsD_any (v1 v2 v3 v4:Value) (S:Sp) (ok:SpWk S) (hc:(checkP S).2=0) (fp:Nat→Value) (vk vs vc fv:Value) (H:Hn) (hH:HnOk S H) (F:List Ft) (hF:FtsOk S F) (hFl:F.length≤10) (B:(Th→Int)→Pp→Bool) (hB:SndIs S B) (w:World) (hD:Deb w) (ht:Tabs w) (hsp:SpRd w v1 v2 v3 v4 fp S) (hcap:∀ i,i<S.ss.length→CapOk (fp i)) (hh:HnRd w vk vs vc H) (hfv:ARd w fv 3 (F.map ftC)) :
  Calls Tryz.prog 37 #[.agg #[v1,v2,v3,v4],fv,.agg #[vk,vs,vc]] w (HrsR (hearL S B F (onH H)) w):=by
 have hb0:=below_two w (.cells #[v1,v2,v3,v4] 27) (.cells #[vk,vs,vc] 32)
 have k0:=(Blk.new w 27 #[v1,v2,v3,v4]).alloc (.cells #[vk,vs,vc] 32)
 have k1:=Blk.new (w.alloc (.cells #[v1,v2,v3,v4] 27)) 32 #[vk,vs,vc]
 rw [World.size_alloc] at k1
 have HB0:=hid hb0
 have K0:=hid k0
 have K1:=hid k1
 have hls:H.ss.length≤1000:=by rw [← hH.ss];have:=len_onL (onH H) 2 S.ss.length;have:=(sp_lens hc).2.2.1;omega
 have hlc:H.cs.length≤1000:=by rw [← hH.cs];have:=len_onL (onH H) 3 S.cs.length;have:=(sp_lens hc).2.2.2;omega
 have HC1:=hid (fun (W:World) (hb:Below w.heap.size w W)=>changed_any H.ss vs F fv 3 (.inl rfl) hls hFl W ((hh.later hb).stops) (hfv.later hb))
 have HC2:=hid (fun (W:World) (hb:Below w.heap.size w W)=>changed_any H.cs vc F fv 5 (.inr rfl) hlc hFl W ((hh.later hb).cous) (hfv.later hb))
 have HL1:=hid (fun (m:List Int) (hs:m.Pairwise (· < ·)) (hm:∀ x,x∈m↔x∈chgM H.ss F 3 F.length)=>chg_on hF hH (k:=2) (n:=S.ss.length) (l:=H.ss) (.inl ⟨rfl,rfl,rfl⟩) hs hm)
 have HL2:=hid (fun (m:List Int) (hs:m.Pairwise (· < ·)) (hm:∀ x,x∈m↔x∈chgM H.cs F 5 F.length)=>chg_on hF hH (k:=3) (n:=S.cs.length) (l:=H.cs) (.inr ⟨rfl,rfl,rfl⟩) hs hm)
 have HPP:=hid (fun (W:World) (hb:Below w.heap.size w W) (us uc:Value) (h1:ARd W us 1 ((onL (onF F (onH H)) 2 S.ss.length).map iC)) (h2:ARd W uc 1 ((onL (onF F (onH H)) 3 S.cs.length).map iC))=>pipesS_any v1 v2 v3 v4 S ok hc fp vk us uc (onF F (onH H)) (onF_ok hF.ok hH.on) B hB W (hD.below hb) (ht.below hb) (hsp.later hb) hcap ((hh.later hb).turnedC hH h1 h2))
 have HFV:=hid hfv
 have HF:=hid hF
 have HLN:=hid (show ∀ k,(hearN S B F (onH H) k).length≤4000 from fun k=>Nat.le_trans (List.length_filter_le _ _) (by
  have h1:=allFrom_len (spGood hc).r 0
  have h2:=sp_lens hc
  omega))
 obtain ⟨af,cf,ev⟩:=hfv.ftForm
 subst ev
 obtain ⟨s0,s1,s2,s3⟩:=k0.four
 have h0:=k1.cell 0
 have h1:=k1.cell 1
 have h2:=k1.cell 2
 simp only [List.getElem?_toArray,List.getElem?_cons_zero,List.getElem?_cons_succ] at h0 h1 h2
 go_enter Tryz.func37,Tryz.ntmps37
 go_upto_region 1 with fail
 generalize (w.alloc (.cells #[v1,v2,v3,v4] 27)).alloc (.cells #[vk,vs,vc] 32)=W0 at *
 have HBD:=hid HB0.out
 have HKD:=hid K1.out
 have HSD:=hid K0.out
 have HMID:=hid (show ∀ z z':World,(fun z=>∃ (ua:Option Addr) (un:Nat) (ms:List Int),ms.Pairwise (· < ·)∧(∀ x,x∈ms↔x∈chgM H.ss F 3 F.length)∧z.ownsRow w.heap.size 3 1 (.slice ua ms.length un) ms.length (vI ms)∧Blk z (w.heap.size+1) 32 #[vk,.slice ua ms.length un,vc]∧Blk z w.heap.size 27 #[v1,v2,v3,v4]∧Below w.heap.size w z) z→Below z.heap.size z z'→(fun z=>∃ (ua:Option Addr) (un:Nat) (ms:List Int),ms.Pairwise (· < ·)∧(∀ x,x∈ms↔x∈chgM H.ss F 3 F.length)∧z.ownsRow w.heap.size 3 1 (.slice ua ms.length un) ms.length (vI ms)∧Blk z (w.heap.size+1) 32 #[vk,.slice ua ms.length un,vc]∧Blk z w.heap.size 27 #[v1,v2,v3,v4]∧Below w.heap.size w z) z' from fun z z' ⟨a,n,m,p1,p2,r,k,s,l⟩ hb=>⟨a,n,m,p1,p2,row_later r hb,k.below hb,s.below hb,below_step l hb⟩)
 clear hb0 k0 k1 s0 s1 s2 s3 h0 h1 h2 hsp hcap hh hfv hD ht ok HB0 K0 K1
 have hmxx:Tryz.prog.follows .mixedOrders=true:=by kernel_rfl
 refine wp_normal (wp_region_flowJ (fun xX=>{ tmps:=#[.agg #[v1,v2,v3,v4],.slice af F.length cf,.agg #[vk,vs,vc],.pointer (some ⟨w.heap.size,0,none⟩),undef,.pointer (some ⟨w.heap.size+1,0,none⟩),.slice none 0 0,undef,undef,undef,undef,undef,undef,undef,(xX 14),(xX 15),(xX 16),(xX 17),(xX 18),(xX 19),(xX 20),(xX 21),(xX 22),(xX 23),undef,undef,undef,undef,undef,undef,undef,undef,undef,undef,undef,undef,undef,undef,undef,undef,undef,undef,undef,undef,undef,undef,undef,undef,undef,undef,undef,undef,undef,undef,undef,undef,undef,undef,undef,undef,undef,undef,undef,undef,undef,undef,undef,undef,undef,undef,undef,undef],defers:=[] }) (fun iI v z=>match iI with
  | 0=>v = .pointer (some ⟨w.heap.size+1,1,none⟩)
  | 1=>v=vs
  | 2=>v = .slice af F.length cf
  | 3=>∃ (ua:Option Addr) (un:Nat) (ms:List Int),v = .slice ua ms.length un∧ms.Pairwise (· < ·)∧(∀ x,x∈ms↔x∈chgM H.ss F 3 F.length)∧z.ownsRow w.heap.size 3 1 (.slice ua ms.length un) ms.length (vI ms)
  | 4=>v = .pointer (some ⟨w.heap.size+1,2,none⟩)
  | 5=>v=vc
  | 6=>v = .slice af F.length cf
  | 7=>∃ (va:Option Addr) (vn:Nat) (mc:List Int),v = .slice va mc.length vn∧mc.Pairwise (· < ·)∧(∀ x,x∈mc↔x∈chgM H.cs F 5 F.length)∧z.ownsRow w.heap.size 3 1 (.slice va mc.length vn) mc.length (vI mc)
  | 8=>v = .pointer (some ⟨w.heap.size+1,1,none⟩)
  | 9=>True
  | 10=>v = .pointer (some ⟨w.heap.size+1,2,none⟩)
  | 11=>True
  | _=>True) (JB 9 11 W0 (fun z=>∃ (ua:Option Addr) (un:Nat) (ms:List Int),ms.Pairwise (· < ·)∧(∀ x,x∈ms↔x∈chgM H.ss F 3 F.length)∧z.ownsRow w.heap.size 3 1 (.slice ua ms.length un) ms.length (vI ms)∧Blk z (w.heap.size+1) 32 #[vk,.slice ua ms.length un,vc]∧Blk z w.heap.size 27 #[v1,v2,v3,v4]∧Below w.heap.size w z) (fun z=>∃ (ua:Option Addr) (un:Nat) (ms:List Int) (va:Option Addr) (vn:Nat) (mc:List Int),(ms.Pairwise (· < ·)∧(∀ x,x∈ms↔x∈chgM H.ss F 3 F.length)∧z.ownsRow w.heap.size 3 1 (.slice ua ms.length un) ms.length (vI ms))∧(mc.Pairwise (· < ·)∧(∀ x,x∈mc↔x∈chgM H.cs F 5 F.length)∧z.ownsRow w.heap.size 3 1 (.slice va mc.length vn) mc.length (vI mc))∧Blk z (w.heap.size+1) 32 #[vk,.slice ua ms.length un,.slice va mc.length vn]∧Blk z w.heap.size 27 #[v1,v2,v3,v4]∧Below w.heap.size w z)) (fun n=>(#[.agg #[v1,v2,v3,v4],.slice af F.length cf,.agg #[vk,vs,vc],.pointer (some ⟨w.heap.size,0,none⟩),undef,.pointer (some ⟨w.heap.size+1,0,none⟩),.slice none 0 0,undef,undef,undef,undef,undef,undef,undef,undef,undef,undef,undef,undef,undef,undef,undef,undef,undef,undef,undef,undef,undef,undef,undef,undef,undef,undef,undef,undef,undef,undef,undef,undef,undef,undef,undef,undef,undef,undef,undef,undef,undef,undef,undef,undef,undef,undef,undef,undef,undef,undef,undef,undef,undef,undef,undef,undef,undef,undef,undef,undef,undef,undef,undef,undef,undef]:Array Value).getD n undef) rfl hmxx (by kernel_rfl) (by kernel_rfl) (jb_start (of_decide_eq_true (by kernel_rfl)) (of_decide_eq_true (by kernel_rfl))) (fun ℓ ℓ' xX w h hj=>jb_cong (of_decide_eq_true (by kernel_rfl)) (of_decide_eq_true (by kernel_rfl)) ℓ ℓ' xX w h hj) ?put ?step ?done)
 case put =>
  intro iI oO dD ho hd xX vV
  match iI,ho with
  | 0,ho | 1,ho | 2,ho | 3,ho | 4,ho | 5,ho | 6,ho | 7,ho | 8,ho | 10,ho => obtain rfl:=oj ho;obtain rfl:=oj hd;rfl
  | 9,ho | 11,ho => obtain rfl:=oj ho;cases hd
  | n+12,ho=>exact absurd (Array.getElem?_eq_some_iff.1 ho).1 (by simp)
 case step =>
  intro iI oO ho ℓ xX z hj hli hup hdl hdep K hK
  match iI,ho with
  | 0,ho =>
   obtain rfl:=oj ho
   have hls:ℓ 11=false:=hup 12 11 (by kernel_rfl)
   have hPl:=fun xx w' (hb:Below z.heap.size z w')=>jb_plain (i:=0) (x':=xx) HMID.out hj (by decide) (by decide) hls hb
   clear hdep ho hup
   dsimp only at hK ⊢
   refine wpOp_step rfl (fun K2 hK2=>?_)
   go_simp
   exact hK2 _ _ (hK _ _ (hPl _ _ (Below.refl _ _)) (fun _ _ _ _ h=>h) rfl)
  | 1,ho =>
   obtain rfl:=oj ho
   have q0:xX 14 = .pointer (some ⟨w.heap.size+1,1,none⟩):=hdep 0 (by kernel_rfl) _ _ rfl rfl
   have hls:ℓ 11=false:=hup 12 11 (by kernel_rfl)
   have hPl:=fun xx w' (hb:Below z.heap.size z w')=>jb_plain (i:=1) (x':=xx) HMID.out hj (by decide) (by decide) hls hb
   have hz:=hj.1 (hup 12 9 (by kernel_rfl))
   have c1:z.cell? ⟨w.heap.size+1,1,none⟩=some vs:=(HKD.out.below hz).cell 1
   clear hdep ho hup
   dsimp only at hK ⊢
   simp only [q0] at hK ⊢
   refine wpOp_step rfl (fun K2 hK2=>?_)
   go_simp
   exact hK2 _ _ (hK _ _ (hPl _ _ (Below.refl _ _)) (fun _ _ _ _ h=>h) rfl)
  | 2,ho =>
   obtain rfl:=oj ho
   have hls:ℓ 11=false:=hup 12 11 (by kernel_rfl)
   have hPl:=fun xx w' (hb:Below z.heap.size z w')=>jb_plain (i:=2) (x':=xx) HMID.out hj (by decide) (by decide) hls hb
   clear hdep ho hup
   dsimp only at hK ⊢
   refine wpOp_step rfl (fun K2 hK2=>?_)
   go_simp
   exact hK2 _ _ (hK _ _ (hPl _ _ (Below.refl _ _)) (fun _ _ _ _ h=>h) rfl)
  | 3,ho =>
   obtain rfl:=oj ho
   have q1:xX 15=vs:=hdep 1 (by kernel_rfl) _ _ rfl rfl
   have q2:xX 16 = .slice af F.length cf:=hdep 2 (by kernel_rfl) _ _ rfl rfl
   have hls:ℓ 11=false:=hup 12 11 (by kernel_rfl)
   have hPl:=fun xx w' (hb:Below z.heap.size z w')=>jb_plain (i:=3) (x':=xx) HMID.out hj (by decide) (by decide) hls hb
   have hz:=hj.1 (hup 12 9 (by kernel_rfl))
   clear hdep ho hup
   dsimp only at hK ⊢
   simp only [q1,q2] at hK ⊢
   refine wpOp_step rfl (fun K2 hK2=>?_)
   go_simp
   refine (HC1.out z (below_step HBD.out hz)).mono ?_
   rintro e z1 ⟨uu,mm,rfl,hr,h1,h2,hb⟩
   obtain ⟨a9,c9,rfl⟩:=own_form hr
   refine hK2 _ _ (hK _ _ (hPl _ _ hb) ?_ ⟨a9,c9,mm,rfl,h1,h2,row_base hr (below_step HBD.out hz).size⟩)
   intro j v' hlj _ h
   match j,h with
   | 0,h=>exact h
   | 1,h=>exact h
   | 2,h=>exact h
   | 3,h=>obtain ⟨a,n,m,e,p1,p2,r⟩:=h;exact ⟨a,n,m,e,p1,p2,row_later r hb⟩
   | 4,h=>exact h
   | 5,h=>exact h
   | 6,h=>exact h
   | 7,h=>obtain ⟨a,n,m,e,p1,p2,r⟩:=h;exact ⟨a,n,m,e,p1,p2,row_later r hb⟩
   | 8,h=>exact h
   | 9,h=>exact h
   | 10,h=>exact h
   | 11,h=>exact h
   | _+12,_=>trivial
  | 4,ho =>
   obtain rfl:=oj ho
   have hls:ℓ 11=false:=hup 12 11 (by kernel_rfl)
   have hPl:=fun xx w' (hb:Below z.heap.size z w')=>jb_plain (i:=4) (x':=xx) HMID.out hj (by decide) (by decide) hls hb
   clear hdep ho hup
   dsimp only at hK ⊢
   refine wpOp_step rfl (fun K2 hK2=>?_)
   go_simp
   exact hK2 _ _ (hK _ _ (hPl _ _ (Below.refl _ _)) (fun _ _ _ _ h=>h) rfl)
  | 5,ho =>
   obtain rfl:=oj ho
   have q4:xX 18 = .pointer (some ⟨w.heap.size+1,2,none⟩):=hdep 4 (by kernel_rfl) _ _ rfl rfl
   have hls:ℓ 11=false:=hup 12 11 (by kernel_rfl)
   have hPl:=fun xx w' (hb:Below z.heap.size z w')=>jb_plain (i:=5) (x':=xx) HMID.out hj (by decide) (by decide) hls hb
   have hz:=hj.1 (hup 12 9 (by kernel_rfl))
   have c2:z.cell? ⟨w.heap.size+1,2,none⟩=some vc:=(HKD.out.below hz).cell 2
   clear hdep ho hup
   dsimp only at hK ⊢
   simp only [q4] at hK ⊢
   refine wpOp_step rfl (fun K2 hK2=>?_)
   go_simp
   exact hK2 _ _ (hK _ _ (hPl _ _ (Below.refl _ _)) (fun _ _ _ _ h=>h) rfl)
  | 6,ho =>
   obtain rfl:=oj ho
   have hls:ℓ 11=false:=hup 12 11 (by kernel_rfl)
   have hPl:=fun xx w' (hb:Below z.heap.size z w')=>jb_plain (i:=6) (x':=xx) HMID.out hj (by decide) (by decide) hls hb
   clear hdep ho hup
   dsimp only at hK ⊢
   refine wpOp_step rfl (fun K2 hK2=>?_)
   go_simp
   exact hK2 _ _ (hK _ _ (hPl _ _ (Below.refl _ _)) (fun _ _ _ _ h=>h) rfl)
  | 7,ho =>
   obtain rfl:=oj ho
   have q5:xX 19=vc:=hdep 5 (by kernel_rfl) _ _ rfl rfl
   have q6:xX 20 = .slice af F.length cf:=hdep 6 (by kernel_rfl) _ _ rfl rfl
   have hls:ℓ 11=false:=hup 12 11 (by kernel_rfl)
   have hPl:=fun xx w' (hb:Below z.heap.size z w')=>jb_plain (i:=7) (x':=xx) HMID.out hj (by decide) (by decide) hls hb
   have hz:=hj.1 (hup 12 9 (by kernel_rfl))
   clear hdep ho hup
   dsimp only at hK ⊢
   simp only [q5,q6] at hK ⊢
   refine wpOp_step rfl (fun K2 hK2=>?_)
   go_simp
   refine (HC2.out z (below_step HBD.out hz)).mono ?_
   rintro e z1 ⟨uu,mm,rfl,hr,h1,h2,hb⟩
   obtain ⟨a9,c9,rfl⟩:=own_form hr
   refine hK2 _ _ (hK _ _ (hPl _ _ hb) ?_ ⟨a9,c9,mm,rfl,h1,h2,row_base hr (below_step HBD.out hz).size⟩)
   intro j v' hlj _ h
   match j,h with
   | 0,h=>exact h
   | 1,h=>exact h
   | 2,h=>exact h
   | 3,h=>obtain ⟨a,n,m,e,p1,p2,r⟩:=h;exact ⟨a,n,m,e,p1,p2,row_later r hb⟩
   | 4,h=>exact h
   | 5,h=>exact h
   | 6,h=>exact h
   | 7,h=>obtain ⟨a,n,m,e,p1,p2,r⟩:=h;exact ⟨a,n,m,e,p1,p2,row_later r hb⟩
   | 8,h=>exact h
   | 9,h=>exact h
   | 10,h=>exact h
   | 11,h=>exact h
   | _+12,_=>trivial
  | 8,ho =>
   obtain rfl:=oj ho
   have hls:ℓ 11=false:=hup 12 11 (by kernel_rfl)
   have hPl:=fun xx w' (hb:Below z.heap.size z w')=>jb_plain (i:=8) (x':=xx) HMID.out hj (by decide) (by decide) hls hb
   clear hdep ho hup
   dsimp only at hK ⊢
   refine wpOp_step rfl (fun K2 hK2=>?_)
   go_simp
   exact hK2 _ _ (hK _ _ (hPl _ _ (Below.refl _ _)) (fun _ _ _ _ h=>h) rfl)
  | 9,ho =>
   obtain rfl:=oj ho
   have q8:xX 22 = .pointer (some ⟨w.heap.size+1,1,none⟩):=hdep 8 (by kernel_rfl) _ _ rfl rfl
   have h3:∃ (ua:Option Addr) (un:Nat) (ms:List Int),xX 17 = .slice ua ms.length un∧ms.Pairwise (· < ·)∧(∀ x,x∈ms↔x∈chgM H.ss F 3 F.length)∧z.ownsRow w.heap.size 3 1 (.slice ua ms.length un) ms.length (vI ms):=hdep 3 (by kernel_rfl) _ _ rfl rfl
   obtain ⟨ua,un,ms,q3,a3,b3,r3⟩:=h3
   have hz:=hj.1 hli
   have hls:ℓ 11=false:=hup 12 11 (by kernel_rfl)
   have hbk:=HKD.out.below hz
   have c1:z.cell? ⟨w.heap.size+1,1,none⟩=some vs:=hbk.cell 1
   have f1:=hbk.frozen 1
   clear hdep ho hup
   dsimp only at hK ⊢
   simp only [q8,q3] at hK ⊢
   refine wpOp_step rfl (fun K2 hK2=>?_)
   go_simp
   refine hK2 _ _ (hK undef _ (jb_mid (by decide) hls ⟨ua,un,ms,a3,b3,owns_setI r3 hbk (by decide),hbk.set 1 _,(HSD.out.below hz).other _ _ (Nat.ne_of_lt (Nat.lt_succ_self _)),(below_step HBD.out hz).setCell (Nat.le_succ _) _⟩) ?_ trivial)
   intro j v' hlj _ h
   match j,h with
   | 0,h=>exact h
   | 1,h=>exact h
   | 2,h=>exact h
   | 3,h=>obtain ⟨a,n,m,e,p1,p2,r⟩:=h;exact ⟨a,n,m,e,p1,p2,owns_setI r hbk (by decide)⟩
   | 4,h=>exact h
   | 5,h=>exact h
   | 6,h=>exact h
   | 7,h=>obtain ⟨a,n,m,e,p1,p2,r⟩:=h;exact ⟨a,n,m,e,p1,p2,owns_setI r hbk (by decide)⟩
   | 8,h=>exact h
   | 9,h=>exact h
   | 10,h=>exact h
   | 11,h=>exact h
   | _+12,_=>trivial
  | 10,ho =>
   obtain rfl:=oj ho
   have hls:ℓ 11=false:=hup 12 11 (by kernel_rfl)
   have hPl:=fun xx w' (hb:Below z.heap.size z w')=>jb_plain (i:=10) (x':=xx) HMID.out hj (by decide) (by decide) hls hb
   clear hdep ho hup
   dsimp only at hK ⊢
   refine wpOp_step rfl (fun K2 hK2=>?_)
   go_simp
   exact hK2 _ _ (hK _ _ (hPl _ _ (Below.refl _ _)) (fun _ _ _ _ h=>h) rfl)
  | 11,ho =>
   obtain rfl:=oj ho
   have q10:xX 23 = .pointer (some ⟨w.heap.size+1,2,none⟩):=hdep 10 (by kernel_rfl) _ _ rfl rfl
   have h7:∃ (va:Option Addr) (vn:Nat) (mc:List Int),xX 21 = .slice va mc.length vn∧mc.Pairwise (· < ·)∧(∀ x,x∈mc↔x∈chgM H.cs F 5 F.length)∧z.ownsRow w.heap.size 3 1 (.slice va mc.length vn) mc.length (vI mc):=hdep 7 (by kernel_rfl) _ _ rfl rfl
   obtain ⟨va,vn,mc,q7,a7,b7,r7⟩:=h7
   obtain ⟨ua,un,ms,a3,b3,r3,k3,s3,l3⟩:=hj.2.1 (hdl 1 9 (by kernel_rfl)) hli
   have c2:z.cell? ⟨w.heap.size+1,2,none⟩=some vc:=k3.cell 2
   have f2:=k3.frozen 2
   clear hdep ho hup
   dsimp only at hK ⊢
   simp only [q10,q7] at hK ⊢
   refine wpOp_step rfl (fun K2 hK2=>?_)
   go_simp
   exact hK2 _ _ (hK undef _ (jb_last (by decide) (hdl 1 9 (by kernel_rfl)) ⟨ua,un,ms,va,vn,mc,⟨a3,b3,owns_setI r3 k3 (by decide)⟩,⟨a7,b7,owns_setI r7 k3 (by decide)⟩,k3.set 2 _,s3.other _ _ (Nat.ne_of_lt (Nat.lt_succ_self _)),l3.setCell (Nat.le_succ _) _⟩) (fun _ _ _ hp _=>absurd hp (lastB_spec (by kernel_rfl) hdl)) trivial)
  | n+12,ho=>exact absurd (Array.getElem?_eq_some_iff.1 ho).1 (by simp)
 case done =>
  intro ℓ xX z hall hj
  have hf:=hj.2.2 (hall 11 (of_decide_eq_true (by kernel_rfl)))
  obtain ⟨ua,un,ms,va,vn,mc,⟨has,hms,hrs⟩,⟨hac,hmc,hrc⟩,hkk,hss,hbb⟩:=hf
  have e1:=HL1.out ms has hms
  have e2:=HL2.out mc hac hmc
  obtain ⟨us,hus⟩:∃ us,Value.slice ua ms.length un=us:=⟨_,rfl⟩
  obtain ⟨uc,huc⟩:∃ uc,Value.slice va mc.length vn=uc:=⟨_,rfl⟩
  rw [hus] at hkk hrs
  rw [huc] at hkk hrc
  have HPZ:=hid (HPP.out z hbb us uc (by rw [← e1];exact ARd.of_ints hrs) (by rw [← e2];exact ARd.of_ints hrc))
  obtain ⟨s0,s1,s2,s3⟩:=hss.four
  obtain ⟨h0,h1,h2⟩:z.cell? ⟨w.heap.size+1,0,none⟩=some vk∧z.cell? ⟨w.heap.size+1,1,none⟩=some us∧z.cell? ⟨w.heap.size+1,2,none⟩=some uc:=⟨hkk.cell 0,hkk.cell 1,hkk.cell 2⟩
  have HW:=hid hbb
  clear hj has hms hrs hac hmc hrc hkk hss hbb e1 e2 hus huc hall HPP HL1 HL2 HC1 HC2 HMID HBD HKD HSD
  dsimp only
  go_wp2_with fail
  refine HPZ.out.mono ?_
  rintro e W5 ⟨u,rfl,hrow,hb5⟩
  have HR5:=hid (show W5.ownsRow w.heap.size 78 2 u (hearN S B F (onH H) 0).length (ppCs (hearN S B F (onH H) 0)) from by rw [hearN_zero];exact row_base hrow HW.out.size)
  have HB5:=hid (below_step HW.out hb5)
  clear hrow hb5 HPZ HW s0 s1 s2 s3 h0 h1 h2
  go_wp2
  go_loopw [7,32] (fun u x wr=>∃ k:Nat,k≤F.length∧x = .int .i64 k∧Hid (wr.ownsRow w.heap.size 78 2 u (hearN S B F (onH H) k).length (ppCs (hearN S B F (onH H) k)))∧Hid (Below w.heap.size w wr)) (fun _ x _=>F.length-(intOf x).toNat)
  case atStart=>exact ⟨0,Nat.zero_le _,rfl,HR5,HB5⟩
  clear HR5 HB5
  obtain ⟨k,hk,rfl,hR,hB⟩:=hrel
  by_cases hkl:k<F.length
  ·have hk2:(k:Int)<(F.length:Int):=by omega
   obtain ⟨b,o,c',ev,hbl,q0,q1,q2⟩:=(HFV.out.later hB.out).ftAt k hkl
   cases ev
   have HSK:=hid (fun h1 h2=>hearN_skip (S:=S) (B:=B) (f:=onH H) hkl h1 h2)
   have HCI:=hid (fun h1=>hearN_cipher (B:=B) HF.out (f:=onH H) hkl h1)
   have HDE:=hid (fun h1=>hearN_dead (S:=S) (B:=B) (f:=onH H) hkl h1)
   have HAS:=hid (hearN_asc S B F (onH H) k)
   have HA2:=hid (hearN_asc S B F (onH H) (k+1))
   have HLK:=hid (HLN.out k)
   obtain ⟨m,hm⟩:∃ m,hearN S B F (onH H) k=m:=⟨_,rfl⟩
   obtain ⟨m',hm'⟩:∃ m',hearN S B F (onH H) (k+1)=m':=⟨_,rfl⟩
   obtain ⟨x,hx⟩:∃ x,F[k]=x:=⟨_,rfl⟩
   rw [hx] at q0 q1 q2 HSK HCI HDE
   rw [hm] at HSK HCI HDE HAS HLK hR
   rw [hm'] at HSK HCI HDE HA2
   obtain ⟨k1,i1,t1⟩:=x
   simp only at q0 q1 q2
   clear hx hm
   have HM':=hid hm'
   clear hm'
   go_upto_region 7 with fail
   have hba:Below wr.heap.size wr (wr.alloc (.cells #[.int .i64 k1,.int .i64 i1,.int .i64 t1] 74)):=(Below.refl _ wr).alloc (Nat.le_refl _) _
   have hbb:Below wr.heap.size wr ((wr.alloc (.cells #[.int .i64 k1,.int .i64 i1,.int .i64 t1] 74)).alloc (.cells #[.int .i64 i1,.int .i64 t1] 78)):=hba.alloc (by simp) _
   have X0:=hid ((Blk.new wr 74 #[.int .i64 k1,.int .i64 i1,.int .i64 t1]).alloc (.cells #[.int .i64 i1,.int .i64 t1] 78))
   have x1:=Blk.new (wr.alloc (.cells #[.int .i64 k1,.int .i64 i1,.int .i64 t1] 74)) 78 #[.int .i64 i1,.int .i64 t1]
   rw [World.size_alloc] at x1
   have X1:=hid x1
   have HR4:=hid (row_later hR.out hbb)
   have HB4:=hid (below_step hB.out hbb)
   obtain ⟨X,hX⟩:∃ X,wr.heap.size=X:=⟨_,rfl⟩
   rw [hX] at X0 X1 ⊢
   generalize (wr.alloc (.cells #[.int .i64 k1,.int .i64 i1,.int .i64 t1] 74)).alloc (.cells #[.int .i64 i1,.int .i64 t1] 78)=W3 at *
   clear hba hbb x1 hX hR hB q0 q1 q2
   obtain ⟨y0,y1⟩:W3.cell? ⟨X+1,0,none⟩=some (.int .i64 i1)∧W3.cell? ⟨X+1,1,none⟩=some (.int .i64 t1):=⟨X1.out.cell 0,X1.out.cell 1⟩
   obtain ⟨ua,un,rfl⟩:=own_form HR4.out
   go_wp2_with fail
   refine (search_any m HAS.out (.slice ua m.length un) i1 t1 W3 (by have:=HLK.out;omega) (ARd.of_pps HR4.out)).mono ?_
   rintro e W4 ⟨at4,hbs,rfl,hb4⟩
   have HBS:=hid hbs
   have hle4:=hbs.len
   replace HR4:=hid (row_later HR4.out hb4)
   replace HB4:=hid (below_step HB4.out hb4)
   replace X0:=hid (X0.out.below hb4)
   replace X1:=hid (X1.out.below hb4)
   clear hb4 y0 y1 hbs
   have y0:W4.cell? ⟨X+1,0,none⟩=some (.int .i64 i1):=X1.out.cell 0
   have y1:W4.cell? ⟨X+1,1,none⟩=some (.int .i64 t1):=X1.out.cell 1
   have z0:W4.cell? ⟨X,0,none⟩=some (.int .i64 k1):=X0.out.cell 0
   by_cases hk1:k1=1
   ·subst hk1
    have HMM:=hid (HCI.out rfl)
    clear HSK HCI HDE
    by_cases hin:((i1,t1):Pp)∈m
    ·have d1:decide (((i1,t1):Pp)∈m)=true:=decide_eq_true hin
     have HE:=hid (show m'=m from pps_one HA2.out HAS.out fun p=>by
      rw [HMM.out]
      exact ⟨fun h=>h.elim id (fun e=>by rw [e];exact hin),.inl⟩)
     clear hin
     go_wp2
     go_roundw
     case rel=>exact ⟨k+1,by omega,by go_num,by rw [HM'.out,HE.out];exact HR4,HB4⟩
     case measure=>simp [intOf];omega
    ·have d1:decide (((i1,t1):Pp)∈m)=false:=decide_eq_false hin
     have HE:=hid (show m.take at4++((i1,t1):Pp) :: m.drop at4=m' from pps_one (ins_asc HAS.out HBS.out hin) HA2.out fun p=>by rw [mem_ins,HMM.out])
     have hbn:Below W4.heap.size W4 (W4.alloc (.cells #[.int .i64 i1,.int .i64 t1] 78)):=(Below.refl _ _).alloc (Nat.le_refl _) _
     have HBN:=hid (below_step HB4.out hbn)
     have HXN:=hid (X0.out.below hbn)
     have HRN:=hid (row_later HR4.out hbn)
     have HNE:=hid (show (Value.slice ua m.length un).ownBlock≠some W4.heap.size from fun e=>Nat.lt_irrefl _ (row_block HR4.out e))
     have hblk:=Blk.new W4 78 #[.int .i64 i1,.int .i64 t1]
     have HIC:=hid (insertP_any m (by have:=HLK.out;omega) w.heap.size at4 hle4 (.slice ua m.length un) (i1,t1) W4.heap.size _ HBN.out.size hblk HB4.out.size HNE.out HRN.out)
     clear hin hbn hblk
     go_wp2_with fail
     refine HIC.out.mono ?_
     rintro e W6 ⟨u6,rfl,hr6,hg6⟩
     have HR6:=hid (show W6.ownsRow w.heap.size 78 2 u6 m'.length (ppCs m') from by rw [← HE.out];exact hr6)
     have HB6:=hid (HBN.out.grown hg6 HBN.out.size (fun j e=>row_ge HRN.out e))
     have z6:W6.cell? ⟨X,0,none⟩=some (.int .i64 1):=(HXN.out.grown hg6 (fun e=>row_not HRN.out HXN.out (by decide) e)).cell 0
     clear hr6 hg6 HIC y0 y1 z0
     go_wp2
     go_roundw
     case rel=>exact ⟨k+1,by omega,by go_num,by rw [HM'.out];exact HR6,HB6⟩
     case measure=>simp [intOf];omega
   ·have e1:(k1==1)=false:=by simpa using hk1
    by_cases hk2':k1=2
    ·subst hk2'
     have HMM:=hid (HDE.out rfl)
     clear HSK HCI HDE
     by_cases hin:((i1,t1):Pp)∈m
     ·have d1:decide (((i1,t1):Pp)∈m)=true:=decide_eq_true hin
      obtain ⟨hlt4,hat4⟩:=(HBS.out.mem HAS.out).1 hin
      have HE:=hid (show m.take at4++m.drop (at4+1)=m' from pps_one (del_asc HAS.out at4) HA2.out fun p=>by rw [mem_del HAS.out hlt4,HMM.out,hat4])
      have hwr4:IntKind.i64.wrap ((at4:Int)+1)=(at4:Int)+1:=IntWalk.i64_in _ (by have:=HLK.out;omega)
      have HDC:=hid (deleteP_any m (by have:=HLK.out;omega) w.heap.size at4 hlt4 (.slice ua m.length un) W4 HR4.out)
      clear hin hat4
      go_wp2_with fail
      refine HDC.out.mono ?_
      rintro e W6 ⟨u6,rfl,hr6,hg6⟩
      have HR6:=hid (show W6.ownsRow w.heap.size 78 2 u6 m'.length (ppCs m') from by rw [← HE.out];exact hr6)
      have HB6:=hid (HB4.out.grown hg6 HB4.out.size (fun j e=>row_ge HR4.out e))
      clear hr6 hg6 HDC y0 y1 z0
      go_wp2
      go_roundw
      case rel=>exact ⟨k+1,by omega,by go_num,by rw [HM'.out];exact HR6,HB6⟩
      case measure=>simp [intOf];omega
     ·have d1:decide (((i1,t1):Pp)∈m)=false:=decide_eq_false hin
      have HE:=hid (show m'=m from pps_one HA2.out HAS.out fun p=>by
       rw [HMM.out]
       exact ⟨fun h=>h.1,fun h=>⟨h,fun e=>hin (by rw [← e];exact h)⟩⟩)
      clear hin
      go_wp2
      go_roundw
      case rel=>exact ⟨k+1,by omega,by go_num,by rw [HM'.out,HE.out];exact HR4,HB4⟩
      case measure=>simp [intOf];omega
    ·have e2:(k1==2)=false:=by simpa using hk2'
     have HE:=hid (show m'=m from HSK.out hk1 hk2')
     clear HSK HCI HDE
     go_wp2
     go_roundw
     case rel=>exact ⟨k+1,by omega,by go_num,by rw [HM'.out,HE.out];exact HR4,HB4⟩
     case measure=>simp [intOf];omega
  ·have hk2:¬ (k:Int)<(F.length:Int):=by omega
   have hke:k=F.length:=by omega
   rw [hke,hearN_all] at hR
   clear hke
   go_wp2
   go_ret
   exact ⟨_,rfl,hR.out,hB.out⟩
end Go.Proofs.YteflhbfgpknabaaGreatDoor
namespace Go.Proofs.YteflhbfgpknabaaGreatDoor
open Go.Lib (hid)
open Go.RowKit
theorem hc2 {w W W':World} {p0 p1:Addr} {u0 u1:Value} (h:Below w.heap.size w W∧W.cell? p0=some u0∧W.cell? p1=some u1) (hb:Below W.heap.size W W'):Below w.heap.size w W'∧W'.cell? p0=some u0∧W'.cell? p1=some u1:=⟨below_step h.1 hb,(hb.cell (cell_size h.2.1)).trans h.2.1,(hb.cell (cell_size h.2.2)).trans h.2.2⟩
theorem hc5 {w W W':World} {p0 p1 p2 p3 p4:Addr} {u0 u1 u2 u3 u4:Value} (h:Below w.heap.size w W∧W.cell? p0=some u0∧W.cell? p1=some u1∧W.cell? p2=some u2∧W.cell? p3=some u3∧W.cell? p4=some u4) (hb:Below W.heap.size W W'):Below w.heap.size w W'∧W'.cell? p0=some u0∧W'.cell? p1=some u1∧W'.cell? p2=some u2∧W'.cell? p3=some u3∧W'.cell? p4=some u4:=⟨below_step h.1 hb,(hb.cell (cell_size h.2.1)).trans h.2.1,(hb.cell (cell_size h.2.2.1)).trans h.2.2.1,(hb.cell (cell_size h.2.2.2.1)).trans h.2.2.2.1,(hb.cell (cell_size h.2.2.2.2.1)).trans h.2.2.2.2.1,(hb.cell (cell_size h.2.2.2.2.2)).trans h.2.2.2.2.2⟩
theorem hc7 {w W W':World} {p0 p1 p2 p3 p4 p5 p6:Addr} {u0 u1 u2 u3 u4 u5 u6:Value} (h:Below w.heap.size w W∧W.cell? p0=some u0∧W.cell? p1=some u1∧W.cell? p2=some u2∧W.cell? p3=some u3∧W.cell? p4=some u4∧W.cell? p5=some u5∧W.cell? p6=some u6) (hb:Below W.heap.size W W'):Below w.heap.size w W'∧W'.cell? p0=some u0∧W'.cell? p1=some u1∧W'.cell? p2=some u2∧W'.cell? p3=some u3∧W'.cell? p4=some u4∧W'.cell? p5=some u5∧W'.cell? p6=some u6:=⟨below_step h.1 hb,(hb.cell (cell_size h.2.1)).trans h.2.1,(hb.cell (cell_size h.2.2.1)).trans h.2.2.1,(hb.cell (cell_size h.2.2.2.1)).trans h.2.2.2.1,(hb.cell (cell_size h.2.2.2.2.1)).trans h.2.2.2.2.1,(hb.cell (cell_size h.2.2.2.2.2.1)).trans h.2.2.2.2.2.1,(hb.cell (cell_size h.2.2.2.2.2.2.1)).trans h.2.2.2.2.2.2.1,(hb.cell (cell_size h.2.2.2.2.2.2.2)).trans h.2.2.2.2.2.2.2⟩
theorem hc8 {w W W':World} {p0 p1 p2 p3 p4 p5 p6 p7:Addr} {u0 u1 u2 u3 u4 u5 u6 u7:Value} (h:Below w.heap.size w W∧W.cell? p0=some u0∧W.cell? p1=some u1∧W.cell? p2=some u2∧W.cell? p3=some u3∧W.cell? p4=some u4∧W.cell? p5=some u5∧W.cell? p6=some u6∧W.cell? p7=some u7) (hb:Below W.heap.size W W'):Below w.heap.size w W'∧W'.cell? p0=some u0∧W'.cell? p1=some u1∧W'.cell? p2=some u2∧W'.cell? p3=some u3∧W'.cell? p4=some u4∧W'.cell? p5=some u5∧W'.cell? p6=some u6∧W'.cell? p7=some u7:=⟨below_step h.1 hb,(hb.cell (cell_size h.2.1)).trans h.2.1,(hb.cell (cell_size h.2.2.1)).trans h.2.2.1,(hb.cell (cell_size h.2.2.2.1)).trans h.2.2.2.1,(hb.cell (cell_size h.2.2.2.2.1)).trans h.2.2.2.2.1,(hb.cell (cell_size h.2.2.2.2.2.1)).trans h.2.2.2.2.2.1,(hb.cell (cell_size h.2.2.2.2.2.2.1)).trans h.2.2.2.2.2.2.1,(hb.cell (cell_size h.2.2.2.2.2.2.2.1)).trans h.2.2.2.2.2.2.2.1,(hb.cell (cell_size h.2.2.2.2.2.2.2.2)).trans h.2.2.2.2.2.2.2.2⟩
end Go.Proofs.YteflhbfgpknabaaGreatDoor
