/-
  A part of the proof: WH.
-/
import Derived.Test.YteflhbfgpknabaaGreatDoorL21
import Derived.Test.YteflhbfgpknabaaGreatDoorL23
import Derived.Test.YteflhbfgpknabaaGreatDoorL22
import Derived.BigQuiet
import Derived.Deep.QuietTactic
set_option maxRecDepth 100000
set_option maxHeartbeats 12800000
namespace Go.Proofs.YteflhbfgpknabaaGreatDoor
open Go.Lib (hid)
open Go.RowKit Go.Shelf
def hrP (S:Sp) (P:Pp→Bool) (k:Nat) (lo:Int) (j:Nat):List Pp:=(allFrom 0 (S.rs.take k)++ofRank k lo j).filter P
theorem hrP_next (S:Sp) (P:Pp→Bool) (k:Nat) (lo:Int) (j:Nat):hrP S P k lo (j+1)=hrP S P k lo j++(if P ((k:Int),lo+(j:Int)) then [((k:Int),lo+(j:Int))] else []):=by
 unfold hrP
 rw [show ofRank (k:Int) lo (j+1)=ofRank k lo j++[((k:Int),lo+(j:Int))] from rfl,← List.append_assoc,List.filter_append]
 by_cases h:P ((k:Int),lo+(j:Int))=true
 ·rw [if_pos h,List.filter_cons_of_pos h,List.filter_nil]
 ·rw [if_neg h,List.filter_cons_of_neg h,List.filter_nil]
theorem hrP_rank {S:Sp} {P:Pp→Bool} {k:Nat} (hk:k<S.rs.length) (lo:Int):hrP S P (k+1) lo 0=hrP S P k S.rs[k].low S.rs[k].cnt.toNat:=by
 unfold hrP
 rw [allFrom_take hk,ofRank,List.append_nil]
theorem hrP_all (S:Sp) (B:(Th→Int)→Pp→Bool) (F:List Ft) (f:Th→Int) (lo:Int):hrP S (hearB B F f) S.rs.length lo 0=hearL S B F f:=by
 unfold hrP hearL
 rw [List.take_length,ofRank,List.append_nil]
theorem hrP_len {S:Sp} (hc:(checkP S).2=0) (P:Pp→Bool) (k:Nat) (lo:Int) {j:Nat} (hj:j≤97):(hrP S P k lo j).length≤4000:=by
 refine Nat.le_trans (List.length_filter_le _ _) ?_
 have h1:=allFrom_len (l:=S.rs.take k) (fun r h=>(spGood hc).r r (List.mem_of_mem_take h)) 0
 have h2:=sp_lens hc
 rw [List.length_append,ofRank_len]
 rw [List.length_take] at h1
 omega
theorem hand_put {W:World} {B:Nat} {x y z:Value} (h:Blk W B 32 #[x,y,z]) (a b c:Value):Blk (((W.setCell ⟨B,0,none⟩ a).setCell ⟨B,1,none⟩ b).setCell ⟨B,2,none⟩ c) B 32 #[a,b,c]:=((h.set 0 a).set 1 b).set 2 c
theorem hand_keep {W:World} {base size n B:Nat} {t:TypeId} {u x y z:Value} {xs:List Value} (r:W.ownsRow base t size u n xs) (h:Blk W B 32 #[x,y,z]) (ht:32≠t) (a b c:Value):(((W.setCell ⟨B,0,none⟩ a).setCell ⟨B,1,none⟩ b).setCell ⟨B,2,none⟩ c).ownsRow base t size u n xs:=owns_setI (owns_setI (owns_setI r h ht) (h.set 0 a) ht) ((h.set 0 a).set 1 b) ht
theorem hears30_any (v1 v2 v3 v4:Value) (S:Sp) (ok:SpWk S) (hc:(checkP S).2=0) (fp:Nat→Value) (vk vs vc fv:Value) (H:Hn) (hH:HnOk S H) (F:List Ft) (hF:∀ x∈F,ftOk S x=true) (hFl:F.length≤1000000) (B:(Th→Int)→Pp→Bool) (hB:SndIs S B) (w:World) (hsp:SpRd w v1 v2 v3 v4 fp S) (hh:HnRd w vk vs vc H) (hfv:ARd w fv 3 (F.map ftC)) :
  Calls Tryz.prog 38 #[.agg #[v1,v2,v3,v4],fv,.agg #[vk,vs,vc]] w (HrsR (hearL S B F (onH H)) w):=by
 obtain ⟨⟨ka,kc,rfl⟩,⟨sa,sc,rfl⟩,⟨ca,cc,rfl⟩⟩:=hh.forms
 obtain ⟨l1,l2,l3,l4⟩:=sp_lens hc
 obtain ⟨_,⟨a2,c2,rfl⟩,⟨a3,c3,rfl⟩,⟨a4,c4,rfl⟩⟩:=hsp.forms
 obtain ⟨i0,hi0,hz0,hz1,hz2⟩:=info_parts pp_info
 have hb0:=below_two w (.cells #[v1,.slice a2 S.rs.length c2,.slice a3 S.ss.length c3,.slice a4 S.cs.length c4] 27) (.cells #[(.slice ka H.ks.length kc),(.slice sa H.ss.length sc),(.slice ca H.cs.length cc)] 32)
 have k0:=(Blk.new w 27 #[v1,.slice a2 S.rs.length c2,.slice a3 S.ss.length c3,.slice a4 S.cs.length c4]).alloc (.cells #[(.slice ka H.ks.length kc),(.slice sa H.ss.length sc),(.slice ca H.cs.length cc)] 32)
 have k1:=Blk.new (w.alloc (.cells #[v1,.slice a2 S.rs.length c2,.slice a3 S.ss.length c3,.slice a4 S.cs.length c4] 27)) 32 #[(.slice ka H.ks.length kc),(.slice sa H.ss.length sc),(.slice ca H.cs.length cc)]
 rw [World.size_alloc] at k1
 have HB0:=hid hb0
 have K0:=hid k0
 have hls:H.ss.length≤1000:=by rw [← hH.ss];have:=len_onL (onH H) 2 S.ss.length;omega
 have hlc:H.cs.length≤1000:=by rw [← hH.cs];have:=len_onL (onH H) 3 S.cs.length;omega
 have HC1:=hid (fun (W:World) (hb:Below w.heap.size w W)=>drawn30_any H.ss (.slice sa H.ss.length sc) S.ss.length 3 (.inl rfl) F fv hls (by omega) hFl W ((hh.later hb).stops) (hfv.later hb))
 have HC2:=hid (fun (W:World) (hb:Below w.heap.size w W)=>drawn30_any H.cs (.slice ca H.cs.length cc) S.cs.length 5 (.inr rfl) F fv hlc (by omega) hFl W ((hh.later hb).cous) (hfv.later hb))
 rw [show drwL H.ss F 3 S.ss.length=onL (onF F (onH H)) 2 S.ss.length from drw_on (_S:=S) (k:=2) (.inl ⟨rfl,rfl⟩)] at HC1
 rw [show drwL H.cs F 5 S.cs.length=onL (onF F (onH H)) 3 S.cs.length from drw_on (_S:=S) (k:=3) (.inr ⟨rfl,rfl⟩)] at HC2
 have HPP:=hid (fun (W:World) (hb:Below w.heap.size w W) (us uc:Value) (h1:ARd W us 1 ((onL (onF F (onH H)) 2 S.ss.length).map iC)) (h2:ARd W uc 1 ((onL (onF F (onH H)) 3 S.cs.length).map iC))=>pipes12_any v1 (.slice a2 S.rs.length c2) (.slice a3 S.ss.length c3) (.slice a4 S.cs.length c4) S (ok.ok l1 l2 l3 l4) hc fp (.slice ka H.ks.length kc) us uc (onF F (onH H)) (onF_ok hF hH.on) B hB W (hsp.later hb) ((hh.later hb).turned hH h1 h2))
 have HIN:=hid (fun (W:World) (hb:Below w.heap.size w W) (a b c:Int)=>in30_any F fv a b c W hFl (hfv.later hb))
 have HSP:=hid hsp
 have HCC:=hid hc
 obtain ⟨af,cf,ev⟩:=hfv.ftForm
 subst ev
 obtain ⟨s0,s1,s2,s3⟩:=k0.four
 obtain ⟨h0,h1,h2⟩:_∧_∧_:=⟨k1.cell 0,k1.cell 1,k1.cell 2⟩
 simp only [List.getElem?_toArray,List.getElem?_cons_zero,List.getElem?_cons_succ] at h0 h1 h2
 go_enter Tryz.func38,Tryz.ntmps38
 go_upto_region 1 with fail
 generalize (w.alloc (.cells #[v1,.slice a2 S.rs.length c2,.slice a3 S.ss.length c3,.slice a4 S.cs.length c4] 27)).alloc (.cells #[(.slice ka H.ks.length kc),(.slice sa H.ss.length sc),(.slice ca H.cs.length cc)] 32)=W0 at *
 have HBD:=hid HB0.out
 have HKD:=hid k1
 have HSD:=hid K0.out
 clear hb0 k0 k1 s0 s1 s2 s3 h0 h1 h2 hsp hh hfv ok hF hH hB hc HB0 K0
 have hmxx:Tryz.prog.follows .mixedOrders=true:=by kernel_rfl
 refine wp_normal (wp_region_flowJ (fun xX=>{ tmps:=#[.agg #[v1,.slice a2 S.rs.length c2,.slice a3 S.ss.length c3,.slice a4 S.cs.length c4],.slice af F.length cf,.agg #[.slice ka H.ks.length kc,.slice sa H.ss.length sc,.slice ca H.cs.length cc],.pointer (some ⟨w.heap.size,0,none⟩),undef,.pointer (some ⟨w.heap.size+1,0,none⟩),.slice none 0 0,(xX 7),undef,undef,undef,undef,undef,undef,undef,undef,(xX 16),(xX 17),(xX 18),(xX 19),(xX 20),(xX 21),(xX 22),(xX 23),(xX 24),(xX 25),(xX 26),(xX 27),(xX 28),(xX 29),(xX 30),(xX 31),(xX 32),undef,undef,undef,undef,undef,undef,undef,undef,undef,undef,undef,undef,undef,undef,undef,undef,undef,undef,undef,undef,undef,undef,undef,undef,undef,undef,undef,undef,undef,undef,undef,undef,undef,undef,undef,undef,undef,undef,undef,undef,undef,undef,undef,undef,undef,undef,undef,undef,undef,undef,undef,undef,undef,undef,undef,undef,undef,undef,undef,undef,undef,undef,undef,undef,undef,undef,undef,undef,undef,undef,undef,undef,undef],defers:=[] }) (fun iI v z=>match iI with
  | 0=>v = .pointer (some ⟨w.heap.size+1,0,none⟩)
  | 1=>v = .slice ka H.ks.length kc
  | 2=>v = .pointer (some ⟨w.heap.size+1,1,none⟩)
  | 3=>v = .slice sa H.ss.length sc
  | 4=>v = .pointer (some ⟨w.heap.size,2,none⟩)
  | 5=>v = .slice a3 S.ss.length c3
  | 6=>v = .int .i64 (S.ss.length:Int)
  | 7=>v = .slice af F.length cf
  | 8=>∃ (ua:Option Addr) (un:Nat),v = .slice ua (onL (onF F (onH H)) 2 S.ss.length).length un∧z.ownsRow w.heap.size 3 1 (.slice ua (onL (onF F (onH H)) 2 S.ss.length).length un) (onL (onF F (onH H)) 2 S.ss.length).length (vI (onL (onF F (onH H)) 2 S.ss.length))
  | 9=>v = .pointer (some ⟨w.heap.size+1,2,none⟩)
  | 10=>v = .slice ca H.cs.length cc
  | 11=>v = .pointer (some ⟨w.heap.size,3,none⟩)
  | 12=>v = .slice a4 S.cs.length c4
  | 13=>v = .int .i64 (S.cs.length:Int)
  | 14=>v = .slice af F.length cf
  | 15=>∃ (va:Option Addr) (vn:Nat),v = .slice va (onL (onF F (onH H)) 3 S.cs.length).length vn∧z.ownsRow w.heap.size 3 1 (.slice va (onL (onF F (onH H)) 3 S.cs.length).length vn) (onL (onF F (onH H)) 3 S.cs.length).length (vI (onL (onF F (onH H)) 3 S.cs.length))
  | 16=>∃ (ua:Option Addr) (un:Nat) (va:Option Addr) (vn:Nat),v = .agg #[.slice ka H.ks.length kc,.slice ua (onL (onF F (onH H)) 2 S.ss.length).length un,.slice va (onL (onF F (onH H)) 3 S.cs.length).length vn]∧z.ownsRow w.heap.size 3 1 (.slice ua (onL (onF F (onH H)) 2 S.ss.length).length un) (onL (onF F (onH H)) 2 S.ss.length).length (vI (onL (onF F (onH H)) 2 S.ss.length))∧z.ownsRow w.heap.size 3 1 (.slice va (onL (onF F (onH H)) 3 S.cs.length).length vn) (onL (onF F (onH H)) 3 S.cs.length).length (vI (onL (onF F (onH H)) 3 S.cs.length))
  | 17=>∃ (bh:Nat),v = .pointer (some ⟨bh,0,none⟩)∧Blk z bh 32 #[.slice none 0 0,.slice none 0 0,.slice none 0 0]∧W0.heap.size≤bh
  | 18=>True
  | _=>True) (JA 18 18 W0 (fun xX z=>∃ (bh:Nat) (ua:Option Addr) (un:Nat) (va:Option Addr) (vn:Nat),xX 7 = .pointer (some ⟨bh,0,none⟩)∧Blk z bh 32 #[.slice ka H.ks.length kc,.slice ua (onL (onF F (onH H)) 2 S.ss.length).length un,.slice va (onL (onF F (onH H)) 3 S.cs.length).length vn]∧z.ownsRow w.heap.size 3 1 (.slice ua (onL (onF F (onH H)) 2 S.ss.length).length un) (onL (onF F (onH H)) 2 S.ss.length).length (vI (onL (onF F (onH H)) 2 S.ss.length))∧z.ownsRow w.heap.size 3 1 (.slice va (onL (onF F (onH H)) 3 S.cs.length).length vn) (onL (onF F (onH H)) 3 S.cs.length).length (vI (onL (onF F (onH H)) 3 S.cs.length))∧Below w.heap.size w z∧Blk z w.heap.size 27 #[v1,.slice a2 S.rs.length c2,.slice a3 S.ss.length c3,.slice a4 S.cs.length c4])) (fun n=>(#[.agg #[v1,.slice a2 S.rs.length c2,.slice a3 S.ss.length c3,.slice a4 S.cs.length c4],.slice af F.length cf,.agg #[.slice ka H.ks.length kc,.slice sa H.ss.length sc,.slice ca H.cs.length cc],.pointer (some ⟨w.heap.size,0,none⟩),undef,.pointer (some ⟨w.heap.size+1,0,none⟩),.slice none 0 0,undef,undef,undef,undef,undef,undef,undef,undef,undef,undef,undef,undef,undef,undef,undef,undef,undef,undef,undef,undef,undef,undef,undef,undef,undef,undef,undef,undef,undef,undef,undef,undef,undef,undef,undef,undef,undef,undef,undef,undef,undef,undef,undef,undef,undef,undef,undef,undef,undef,undef,undef,undef,undef,undef,undef,undef,undef,undef,undef,undef,undef,undef,undef,undef,undef,undef,undef,undef,undef,undef,undef,undef,undef,undef,undef,undef,undef,undef,undef,undef,undef,undef,undef,undef,undef,undef,undef,undef,undef,undef,undef,undef,undef,undef,undef,undef,undef,undef,undef]:Array Value).getD n undef) rfl hmxx (by kernel_rfl) (by kernel_rfl) (ja_start (of_decide_eq_true (by kernel_rfl))) (fun ℓ ℓ' xX w h hj=>ja_cong (of_decide_eq_true (by kernel_rfl)) (of_decide_eq_true (by kernel_rfl)) ℓ ℓ' xX w h hj) ?put ?step ?done)
 case put =>
  intro iI oO dD ho hd xX vV
  match iI,ho with
  | 0,ho | 1,ho | 2,ho | 3,ho | 4,ho | 5,ho | 6,ho | 7,ho | 8,ho | 9,ho | 10,ho | 11,ho | 12,ho | 13,ho | 14,ho | 15,ho | 16,ho | 17,ho => obtain rfl:=oj ho;obtain rfl:=oj hd;rfl
  | 18,ho => obtain rfl:=oj ho;cases hd
  | n+19,ho=>exact absurd (Array.getElem?_eq_some_iff.1 ho).1 (by simp)
 case step =>
  intro iI oO ho ℓ xX z hj hli hup hdl hdep K hK
  match iI,ho with
  | 0,ho =>
   obtain rfl:=oj ho
   have hls:ℓ 18=false:=hup 12 18 (by kernel_rfl)
   have hPl:=fun xx w' (hb:Below z.heap.size z w')=>ja_plain (i:=0) (x':=xx) hj (by decide) (by decide) hls hb
   clear hdep ho hup
   dsimp only at hK ⊢
   refine wpOp_step rfl (fun K2 hK2=>?_)
   go_simp
   exact hK2 _ _ (hK _ _ (hPl _ _ (Below.refl _ _)) (fun _ _ _ _ h=>h) rfl)
  | 1,ho =>
   obtain rfl:=oj ho
   have q0:xX 16 = .pointer (some ⟨w.heap.size+1,0,none⟩):=hdep 0 (by kernel_rfl) _ _ rfl rfl
   have hls:ℓ 18=false:=hup 12 18 (by kernel_rfl)
   have hPl:=fun xx w' (hb:Below z.heap.size z w')=>ja_plain (i:=1) (x':=xx) hj (by decide) (by decide) hls hb
   have hz:=hj.1 (hup 12 18 (by kernel_rfl))
   have c1:z.cell? ⟨w.heap.size+1,0,none⟩=some (.slice ka H.ks.length kc):=(HKD.out.below hz).cell 0
   clear hdep ho hup
   dsimp only at hK ⊢
   simp only [q0] at hK ⊢
   refine wpOp_step rfl (fun K2 hK2=>?_)
   go_simp
   exact hK2 _ _ (hK _ _ (hPl _ _ (Below.refl _ _)) (fun _ _ _ _ h=>h) rfl)
  | 2,ho =>
   obtain rfl:=oj ho
   have hls:ℓ 18=false:=hup 12 18 (by kernel_rfl)
   have hPl:=fun xx w' (hb:Below z.heap.size z w')=>ja_plain (i:=2) (x':=xx) hj (by decide) (by decide) hls hb
   clear hdep ho hup
   dsimp only at hK ⊢
   refine wpOp_step rfl (fun K2 hK2=>?_)
   go_simp
   exact hK2 _ _ (hK _ _ (hPl _ _ (Below.refl _ _)) (fun _ _ _ _ h=>h) rfl)
  | 3,ho =>
   obtain rfl:=oj ho
   have q2:xX 18 = .pointer (some ⟨w.heap.size+1,1,none⟩):=hdep 2 (by kernel_rfl) _ _ rfl rfl
   have hls:ℓ 18=false:=hup 12 18 (by kernel_rfl)
   have hPl:=fun xx w' (hb:Below z.heap.size z w')=>ja_plain (i:=3) (x':=xx) hj (by decide) (by decide) hls hb
   have hz:=hj.1 (hup 12 18 (by kernel_rfl))
   have c1:z.cell? ⟨w.heap.size+1,1,none⟩=some (.slice sa H.ss.length sc):=(HKD.out.below hz).cell 1
   clear hdep ho hup
   dsimp only at hK ⊢
   simp only [q2] at hK ⊢
   refine wpOp_step rfl (fun K2 hK2=>?_)
   go_simp
   exact hK2 _ _ (hK _ _ (hPl _ _ (Below.refl _ _)) (fun _ _ _ _ h=>h) rfl)
  | 4,ho =>
   obtain rfl:=oj ho
   have hls:ℓ 18=false:=hup 12 18 (by kernel_rfl)
   have hPl:=fun xx w' (hb:Below z.heap.size z w')=>ja_plain (i:=4) (x':=xx) hj (by decide) (by decide) hls hb
   clear hdep ho hup
   dsimp only at hK ⊢
   refine wpOp_step rfl (fun K2 hK2=>?_)
   go_simp
   exact hK2 _ _ (hK _ _ (hPl _ _ (Below.refl _ _)) (fun _ _ _ _ h=>h) rfl)
  | 5,ho =>
   obtain rfl:=oj ho
   have q4:xX 20 = .pointer (some ⟨w.heap.size,2,none⟩):=hdep 4 (by kernel_rfl) _ _ rfl rfl
   have hls:ℓ 18=false:=hup 12 18 (by kernel_rfl)
   have hPl:=fun xx w' (hb:Below z.heap.size z w')=>ja_plain (i:=5) (x':=xx) hj (by decide) (by decide) hls hb
   have hz:=hj.1 (hup 12 18 (by kernel_rfl))
   have c1:z.cell? ⟨w.heap.size,2,none⟩=some (.slice a3 S.ss.length c3):=(HSD.out.below hz).cell 2
   clear hdep ho hup
   dsimp only at hK ⊢
   simp only [q4] at hK ⊢
   refine wpOp_step rfl (fun K2 hK2=>?_)
   go_simp
   exact hK2 _ _ (hK _ _ (hPl _ _ (Below.refl _ _)) (fun _ _ _ _ h=>h) rfl)
  | 6,ho =>
   obtain rfl:=oj ho
   have q5:xX 21 = .slice a3 S.ss.length c3:=hdep 5 (by kernel_rfl) _ _ rfl rfl
   have hls:ℓ 18=false:=hup 12 18 (by kernel_rfl)
   have hPl:=fun xx w' (hb:Below z.heap.size z w')=>ja_plain (i:=6) (x':=xx) hj (by decide) (by decide) hls hb
   clear hdep ho hup
   dsimp only at hK ⊢
   simp only [q5] at hK ⊢
   refine wpOp_step rfl (fun K2 hK2=>?_)
   go_simp
   exact hK2 _ _ (hK _ _ (hPl _ _ (Below.refl _ _)) (fun _ _ _ _ h=>h) rfl)
  | 7,ho =>
   obtain rfl:=oj ho
   have hls:ℓ 18=false:=hup 12 18 (by kernel_rfl)
   have hPl:=fun xx w' (hb:Below z.heap.size z w')=>ja_plain (i:=7) (x':=xx) hj (by decide) (by decide) hls hb
   clear hdep ho hup
   dsimp only at hK ⊢
   refine wpOp_step rfl (fun K2 hK2=>?_)
   go_simp
   exact hK2 _ _ (hK _ _ (hPl _ _ (Below.refl _ _)) (fun _ _ _ _ h=>h) rfl)
  | 8,ho =>
   obtain rfl:=oj ho
   have q3:xX 19 = .slice sa H.ss.length sc:=hdep 3 (by kernel_rfl) _ _ rfl rfl
   have q6:xX 22 = .int .i64 (S.ss.length:Int):=hdep 6 (by kernel_rfl) _ _ rfl rfl
   have q7:xX 23 = .slice af F.length cf:=hdep 7 (by kernel_rfl) _ _ rfl rfl
   have hls:ℓ 18=false:=hup 12 18 (by kernel_rfl)
   have hPl:=fun xx w' (hb:Below z.heap.size z w')=>ja_plain (i:=8) (x':=xx) hj (by decide) (by decide) hls hb
   have hz:=hj.1 (hup 12 18 (by kernel_rfl))
   clear hdep ho hup
   dsimp only at hK ⊢
   simp only [q3,q6,q7] at hK ⊢
   refine wpOp_step rfl (fun K2 hK2=>?_)
   go_simp
   refine (HC1.out z (below_step HBD.out hz)).mono ?_
   rintro e z1 ⟨uu,rfl,hr,hb⟩
   obtain ⟨a9,c9,rfl⟩:=own_form hr
   refine hK2 _ _ (hK _ _ (hPl _ _ hb) ?_ ⟨a9,c9,rfl,row_base hr (below_step HBD.out hz).size⟩)
   intro j v' hlj _ h
   match j,h with
   | 0,h=>exact h
   | 1,h=>exact h
   | 2,h=>exact h
   | 3,h=>exact h
   | 4,h=>exact h
   | 5,h=>exact h
   | 6,h=>exact h
   | 7,h=>exact h
   | 8,h=>obtain ⟨a,c,e,r⟩:=h;exact ⟨a,c,e,row_later r hb⟩
   | 9,h=>exact h
   | 10,h=>exact h
   | 11,h=>exact h
   | 12,h=>exact h
   | 13,h=>exact h
   | 14,h=>exact h
   | 15,h=>obtain ⟨a,c,e,r⟩:=h;exact ⟨a,c,e,row_later r hb⟩
   | 16,h=>obtain ⟨a,c,a2,c2,e,r,r2⟩:=h;exact ⟨a,c,a2,c2,e,row_later r hb,row_later r2 hb⟩
   | 17,h=>obtain ⟨b,e,k,l⟩:=h;exact ⟨b,e,k.below hb,l⟩
   | 18,h=>exact h
   | _+19,_=>trivial
  | 9,ho =>
   obtain rfl:=oj ho
   have hls:ℓ 18=false:=hup 12 18 (by kernel_rfl)
   have hPl:=fun xx w' (hb:Below z.heap.size z w')=>ja_plain (i:=9) (x':=xx) hj (by decide) (by decide) hls hb
   clear hdep ho hup
   dsimp only at hK ⊢
   refine wpOp_step rfl (fun K2 hK2=>?_)
   go_simp
   exact hK2 _ _ (hK _ _ (hPl _ _ (Below.refl _ _)) (fun _ _ _ _ h=>h) rfl)
  | 10,ho =>
   obtain rfl:=oj ho
   have q9:xX 25 = .pointer (some ⟨w.heap.size+1,2,none⟩):=hdep 9 (by kernel_rfl) _ _ rfl rfl
   have hls:ℓ 18=false:=hup 12 18 (by kernel_rfl)
   have hPl:=fun xx w' (hb:Below z.heap.size z w')=>ja_plain (i:=10) (x':=xx) hj (by decide) (by decide) hls hb
   have hz:=hj.1 (hup 12 18 (by kernel_rfl))
   have c1:z.cell? ⟨w.heap.size+1,2,none⟩=some (.slice ca H.cs.length cc):=(HKD.out.below hz).cell 2
   clear hdep ho hup
   dsimp only at hK ⊢
   simp only [q9] at hK ⊢
   refine wpOp_step rfl (fun K2 hK2=>?_)
   go_simp
   exact hK2 _ _ (hK _ _ (hPl _ _ (Below.refl _ _)) (fun _ _ _ _ h=>h) rfl)
  | 11,ho =>
   obtain rfl:=oj ho
   have hls:ℓ 18=false:=hup 12 18 (by kernel_rfl)
   have hPl:=fun xx w' (hb:Below z.heap.size z w')=>ja_plain (i:=11) (x':=xx) hj (by decide) (by decide) hls hb
   clear hdep ho hup
   dsimp only at hK ⊢
   refine wpOp_step rfl (fun K2 hK2=>?_)
   go_simp
   exact hK2 _ _ (hK _ _ (hPl _ _ (Below.refl _ _)) (fun _ _ _ _ h=>h) rfl)
  | 12,ho =>
   obtain rfl:=oj ho
   have q11:xX 27 = .pointer (some ⟨w.heap.size,3,none⟩):=hdep 11 (by kernel_rfl) _ _ rfl rfl
   have hls:ℓ 18=false:=hup 12 18 (by kernel_rfl)
   have hPl:=fun xx w' (hb:Below z.heap.size z w')=>ja_plain (i:=12) (x':=xx) hj (by decide) (by decide) hls hb
   have hz:=hj.1 (hup 12 18 (by kernel_rfl))
   have c1:z.cell? ⟨w.heap.size,3,none⟩=some (.slice a4 S.cs.length c4):=(HSD.out.below hz).cell 3
   clear hdep ho hup
   dsimp only at hK ⊢
   simp only [q11] at hK ⊢
   refine wpOp_step rfl (fun K2 hK2=>?_)
   go_simp
   exact hK2 _ _ (hK _ _ (hPl _ _ (Below.refl _ _)) (fun _ _ _ _ h=>h) rfl)
  | 13,ho =>
   obtain rfl:=oj ho
   have q12:xX 28 = .slice a4 S.cs.length c4:=hdep 12 (by kernel_rfl) _ _ rfl rfl
   have hls:ℓ 18=false:=hup 12 18 (by kernel_rfl)
   have hPl:=fun xx w' (hb:Below z.heap.size z w')=>ja_plain (i:=13) (x':=xx) hj (by decide) (by decide) hls hb
   clear hdep ho hup
   dsimp only at hK ⊢
   simp only [q12] at hK ⊢
   refine wpOp_step rfl (fun K2 hK2=>?_)
   go_simp
   exact hK2 _ _ (hK _ _ (hPl _ _ (Below.refl _ _)) (fun _ _ _ _ h=>h) rfl)
  | 14,ho =>
   obtain rfl:=oj ho
   have hls:ℓ 18=false:=hup 12 18 (by kernel_rfl)
   have hPl:=fun xx w' (hb:Below z.heap.size z w')=>ja_plain (i:=14) (x':=xx) hj (by decide) (by decide) hls hb
   clear hdep ho hup
   dsimp only at hK ⊢
   refine wpOp_step rfl (fun K2 hK2=>?_)
   go_simp
   exact hK2 _ _ (hK _ _ (hPl _ _ (Below.refl _ _)) (fun _ _ _ _ h=>h) rfl)
  | 15,ho =>
   obtain rfl:=oj ho
   have q10:xX 26 = .slice ca H.cs.length cc:=hdep 10 (by kernel_rfl) _ _ rfl rfl
   have q13:xX 29 = .int .i64 (S.cs.length:Int):=hdep 13 (by kernel_rfl) _ _ rfl rfl
   have q14:xX 30 = .slice af F.length cf:=hdep 14 (by kernel_rfl) _ _ rfl rfl
   have hls:ℓ 18=false:=hup 12 18 (by kernel_rfl)
   have hPl:=fun xx w' (hb:Below z.heap.size z w')=>ja_plain (i:=15) (x':=xx) hj (by decide) (by decide) hls hb
   have hz:=hj.1 (hup 12 18 (by kernel_rfl))
   clear hdep ho hup
   dsimp only at hK ⊢
   simp only [q10,q13,q14] at hK ⊢
   refine wpOp_step rfl (fun K2 hK2=>?_)
   go_simp
   refine (HC2.out z (below_step HBD.out hz)).mono ?_
   rintro e z1 ⟨uu,rfl,hr,hb⟩
   obtain ⟨a9,c9,rfl⟩:=own_form hr
   refine hK2 _ _ (hK _ _ (hPl _ _ hb) ?_ ⟨a9,c9,rfl,row_base hr (below_step HBD.out hz).size⟩)
   intro j v' hlj _ h
   match j,h with
   | 0,h=>exact h
   | 1,h=>exact h
   | 2,h=>exact h
   | 3,h=>exact h
   | 4,h=>exact h
   | 5,h=>exact h
   | 6,h=>exact h
   | 7,h=>exact h
   | 8,h=>obtain ⟨a,c,e,r⟩:=h;exact ⟨a,c,e,row_later r hb⟩
   | 9,h=>exact h
   | 10,h=>exact h
   | 11,h=>exact h
   | 12,h=>exact h
   | 13,h=>exact h
   | 14,h=>exact h
   | 15,h=>obtain ⟨a,c,e,r⟩:=h;exact ⟨a,c,e,row_later r hb⟩
   | 16,h=>obtain ⟨a,c,a2,c2,e,r,r2⟩:=h;exact ⟨a,c,a2,c2,e,row_later r hb,row_later r2 hb⟩
   | 17,h=>obtain ⟨b,e,k,l⟩:=h;exact ⟨b,e,k.below hb,l⟩
   | 18,h=>exact h
   | _+19,_=>trivial
  | 16,ho =>
   obtain rfl:=oj ho
   have q1:xX 17 = .slice ka H.ks.length kc:=hdep 1 (by kernel_rfl) _ _ rfl rfl
   have h8:∃ (ua:Option Addr) (un:Nat),xX 24 = .slice ua (onL (onF F (onH H)) 2 S.ss.length).length un∧z.ownsRow w.heap.size 3 1 (.slice ua (onL (onF F (onH H)) 2 S.ss.length).length un) (onL (onF F (onH H)) 2 S.ss.length).length (vI (onL (onF F (onH H)) 2 S.ss.length)):=hdep 8 (by kernel_rfl) _ _ rfl rfl
   obtain ⟨ua,un,q8,r8⟩:=h8
   have h15:∃ (va:Option Addr) (vn:Nat),xX 31 = .slice va (onL (onF F (onH H)) 3 S.cs.length).length vn∧z.ownsRow w.heap.size 3 1 (.slice va (onL (onF F (onH H)) 3 S.cs.length).length vn) (onL (onF F (onH H)) 3 S.cs.length).length (vI (onL (onF F (onH H)) 3 S.cs.length)):=hdep 15 (by kernel_rfl) _ _ rfl rfl
   obtain ⟨va,vn,q15,r15⟩:=h15
   have hls:ℓ 18=false:=hup 12 18 (by kernel_rfl)
   have hPl:=fun xx w' (hb:Below z.heap.size z w')=>ja_plain (i:=16) (x':=xx) hj (by decide) (by decide) hls hb
   clear hdep ho hup
   dsimp only at hK ⊢
   simp only [q1,q8,q15] at hK ⊢
   refine wpOp_step rfl (fun K2 hK2=>?_)
   go_simp
   exact hK2 _ _ (hK _ _ (hPl _ _ (Below.refl _ _)) (fun _ _ _ _ h=>h) ⟨ua,un,va,vn,rfl,r8,r15⟩)
  | 17,ho =>
   obtain rfl:=oj ho
   have hls:ℓ 18=false:=hup 12 18 (by kernel_rfl)
   have hPl:=fun xx w' (hb:Below z.heap.size z w')=>ja_plain (i:=17) (x':=xx) hj (by decide) (by decide) hls hb
   have hz:=hj.1 (hup 12 18 (by kernel_rfl))
   clear hdep ho hup
   dsimp only at hK ⊢
   refine wpOp_step rfl (fun K2 hK2=>?_)
   go_simp
   have hb:Below z.heap.size z (z.alloc (.cells #[.slice none 0 0,.slice none 0 0,.slice none 0 0] 32)):=(Below.refl _ _).alloc (Nat.le_refl _) _
   refine hK2 _ _ (hK _ _ (hPl _ _ hb) ?_ ⟨z.heap.size,rfl,Blk.new z _ _,hz.size⟩)
   intro j v' hlj _ h
   match j,h with
   | 0,h=>exact h
   | 1,h=>exact h
   | 2,h=>exact h
   | 3,h=>exact h
   | 4,h=>exact h
   | 5,h=>exact h
   | 6,h=>exact h
   | 7,h=>exact h
   | 8,h=>obtain ⟨a,c,e,r⟩:=h;exact ⟨a,c,e,row_later r hb⟩
   | 9,h=>exact h
   | 10,h=>exact h
   | 11,h=>exact h
   | 12,h=>exact h
   | 13,h=>exact h
   | 14,h=>exact h
   | 15,h=>obtain ⟨a,c,e,r⟩:=h;exact ⟨a,c,e,row_later r hb⟩
   | 16,h=>obtain ⟨a,c,a2,c2,e,r,r2⟩:=h;exact ⟨a,c,a2,c2,e,row_later r hb,row_later r2 hb⟩
   | 17,h=>obtain ⟨b,e,k,l⟩:=h;exact ⟨b,e,k.below hb,l⟩
   | 18,h=>exact h
   | _+19,_=>trivial
  | 18,ho =>
   obtain rfl:=oj ho
   have h17:∃ (bh:Nat),xX 7 = .pointer (some ⟨bh,0,none⟩)∧Blk z bh 32 #[.slice none 0 0,.slice none 0 0,.slice none 0 0]∧W0.heap.size≤bh:=hdep 17 (by kernel_rfl) _ _ rfl rfl
   obtain ⟨bh,q17,k17,l17⟩:=h17
   have h16:∃ (ua:Option Addr) (un:Nat) (va:Option Addr) (vn:Nat),xX 32 = .agg #[.slice ka H.ks.length kc,.slice ua (onL (onF F (onH H)) 2 S.ss.length).length un,.slice va (onL (onF F (onH H)) 3 S.cs.length).length vn]∧z.ownsRow w.heap.size 3 1 (.slice ua (onL (onF F (onH H)) 2 S.ss.length).length un) (onL (onF F (onH H)) 2 S.ss.length).length (vI (onL (onF F (onH H)) 2 S.ss.length))∧z.ownsRow w.heap.size 3 1 (.slice va (onL (onF F (onH H)) 3 S.cs.length).length vn) (onL (onF F (onH H)) 3 S.cs.length).length (vI (onL (onF F (onH H)) 3 S.cs.length)):=hdep 16 (by kernel_rfl) _ _ rfl rfl
   obtain ⟨ua,un,va,vn,q16,r16,s16⟩:=h16
   have hz:=hj.1 hli
   obtain ⟨c0,c1,c2⟩:z.cell? ⟨bh,0,none⟩=some (.slice none 0 0)∧z.cell? ⟨bh,1,none⟩=some (.slice none 0 0)∧z.cell? ⟨bh,2,none⟩=some (.slice none 0 0):=⟨k17.cell 0,k17.cell 1,k17.cell 2⟩
   obtain ⟨f0,f1,f2⟩:z.frozen? ⟨bh,0,none⟩=false∧z.frozen? ⟨bh,1,none⟩=false∧z.frozen? ⟨bh,2,none⟩=false:=⟨k17.frozen 0,k17.frozen 1,k17.frozen 2⟩
   have hlo:w.heap.size≤bh:=Nat.le_trans HBD.out.size l17
   have hbn:w.heap.size<bh:=Nat.lt_of_lt_of_le HSD.out.lt l17
   clear hdep ho hup
   dsimp only at hK ⊢
   simp only [q17,q16] at hK ⊢
   refine wpOp_step rfl (fun K2 hK2=>?_)
   go_simp
   exact hK2 _ _ (hK undef _ (ja_last (.inl rfl) ⟨bh,ua,un,va,vn,q17,hand_put k17 _ _ _,hand_keep r16 k17 (by decide) _ _ _,hand_keep s16 k17 (by decide) _ _ _,(((below_step HBD.out hz).setCell hlo _).setCell hlo _).setCell hlo _,(((HSD.out.below hz).other _ _ (Nat.ne_of_lt hbn)).other _ _ (Nat.ne_of_lt hbn)).other _ _ (Nat.ne_of_lt hbn)⟩) (fun _ _ _ hp _=>absurd hp (lastB_spec (by kernel_rfl) hdl)) trivial)
  | n+19,ho=>exact absurd (Array.getElem?_eq_some_iff.1 ho).1 (by simp)
 case done =>
  intro ℓ xX z hall hj
  have hf:=hj.2 (hall 18 (of_decide_eq_true (by kernel_rfl)))
  obtain ⟨bh,ua,un,va,vn,q7,hkk,r2,r3,hbb,hss⟩:=hf
  have HPZ:=hid (HPP.out z hbb _ _ (ARd.of_ints r2) (ARd.of_ints r3))
  obtain ⟨us,hus⟩:∃ us,Value.slice ua (onL (onF F (onH H)) 2 S.ss.length).length un=us:=⟨_,rfl⟩
  obtain ⟨uc,huc⟩:∃ uc,Value.slice va (onL (onF F (onH H)) 3 S.cs.length).length vn=uc:=⟨_,rfl⟩
  rw [hus,huc] at hkk HPZ
  obtain ⟨s0,s1,s2,s3⟩:=hss.four
  obtain ⟨h0,h1,h2⟩:z.cell? ⟨bh,0,none⟩=some (.slice ka H.ks.length kc)∧z.cell? ⟨bh,1,none⟩=some us∧z.cell? ⟨bh,2,none⟩=some uc:=⟨hkk.cell 0,hkk.cell 1,hkk.cell 2⟩
  have HW:=hid hbb
  have HSS:=hid hss
  dsimp only
  simp only [q7]
  clear hj r2 r3 hkk hss hbb hus huc hall HPP HC1 HC2 HBD HKD HSD q7
  go_wp2_with fail
  refine HPZ.out.mono ?_
  rintro e W5 ⟨u,rfl,hrow,hb5⟩
  obtain ⟨ul,un2,rfl⟩:=own_form hrow
  have HB5:=hid (below_step HW.out hb5)
  have HS5:=hid (HSS.out.below hb5)
  have HAL:=hid (ARd.of_pps hrow)
  have hll:=sndL_len HCC.out B (onF F (onH H))
  clear hrow hb5 HPZ HW HSS s0 s1 s2 s3 h0 h1 h2
  have HQ:=hid (show ∀ p,hearB B F (onH H) p=((decide ((1,p.1,p.2)∈F)||B (onF F (onH H)) p)&&!decide ((2,p.1,p.2)∈F)) from fun p=>by unfold hearB;rw [Bool.or_comm])
  have HML:=hid (show ∀ p,p∈allFrom 0 S.rs→decide (p∈sndL S B (onF F (onH H)))=B (onF F (onH H)) p from fun p hp=>by
   unfold sndL
   rw [Bool.eq_iff_iff,decide_eq_true_iff,List.mem_filter]
   exact ⟨fun h=>h.2,fun h=>⟨hp,h⟩⟩)
  obtain ⟨P,hP⟩:∃ P,hearB B F (onH H)=P:=⟨_,rfl⟩
  obtain ⟨l,hl⟩:∃ l,sndL S B (onF F (onH H))=l:=⟨_,rfl⟩
  have HRES:=hid (show hrP S P S.rs.length 0 0=hearL S B F (onH H) from by rw [← hP];exact hrP_all S B F (onH H) 0)
  rw [hl] at HML HAL hll ⊢
  rw [hP] at HQ
  have HR0:=hid (show W5.ownsRow W5.heap.size 78 2 (.slice none 0 0) (hrP S P 0 0 0).length (ppCs (hrP S P 0 0 0)) from World.ownsRow_nil _ _ _ _)
  have HG0:=hid (Below.refl W5.heap.size W5)
  have HRK:=hid (fun (k:Nat) (hk:k<S.rs.length)=>rk_ok ((spGood HCC.out).r _ (List.getElem_mem hk)))
  have HPL:=hid (fun (k:Nat) (lo:Int) (j:Nat) (hj:j≤97)=>hrP_len HCC.out P k lo hj)
  clear hP hl
  go_wp2
  go_loopw [10,11] (fun u x wr=>∃ k:Nat,k≤S.rs.length∧x = .int .i64 k∧Hid (wr.ownsRow W5.heap.size 78 2 u (hrP S P k 0 0).length (ppCs (hrP S P k 0 0)))∧Hid (Below W5.heap.size W5 wr)) (fun _ x _=>S.rs.length-(intOf x).toNat)
  case atStart=>exact ⟨0,Nat.zero_le _,rfl,HR0,HG0⟩
  clear HR0 HG0
  obtain ⟨k,hk,rfl,hR,hG⟩:=hrel
  have t1:wr.cell? ⟨w.heap.size,1,none⟩=some (.slice a2 S.rs.length c2):=(HS5.out.below hG.out).cell 1
  by_cases hkl:k<S.rs.length
  ·have hk2:(k:Int)<(S.rs.length:Int):=by omega
   obtain ⟨c1',c2',c3',c4'⟩:=HRK.out k hkl
   obtain ⟨b,o,c,ev,hbl,r0,r1,r2,r3,r4,r5⟩:=(HSP.out.later (below_step HB5.out hG.out)).rAt k hkl
   cases ev
   have HRN:=hid (hrP_rank (P:=P) hkl 0)
   have HRA:=hid (fun (W:World) (hb:Below W5.heap.size W5 W)=>show W.cell? ⟨b,o+k * 6+4,none⟩=some (.int .i64 S.rs[k].low)∧W.cell? ⟨b,o+k * 6+5,none⟩=some (.int .i64 S.rs[k].cnt) from by
    obtain ⟨b',o',c',ev,_,_,_,_,_,p4,p5⟩:=(HSP.out.later (below_step HB5.out hb)).rAt k hkl
    obtain ⟨rfl,rfl⟩:=slice_inj ev
    exact ⟨p4,p5⟩)
   obtain ⟨m,hm⟩:∃ m:Nat,S.rs[k].cnt=m:=⟨S.rs[k].cnt.toNat,by omega⟩
   have HPA:=hid (fun (j:Nat) (hj:j<m)=>show ((k:Int),S.rs[k].low+(j:Int))∈allFrom 0 S.rs from mem_allFrom.2 ⟨k,hkl,by simp,by simp only;omega,by simp only;omega⟩)
   have hmt:S.rs[k].cnt.toNat=m:=by omega
   rw [hmt] at HRN
   rw [hm] at r5 HRA
   obtain ⟨lo,hlo⟩:∃ lo,S.rs[k].low=lo:=⟨_,rfl⟩
   rw [hlo] at r4 HRA HRN HPA c3' c4'
   have hm97:m≤97:=by omega
   have hlm:lo+(m:Int)≤128:=by omega
   have HR1:=hid (show wr.ownsRow W5.heap.size 78 2 u10 (hrP S P k lo 0).length (ppCs (hrP S P k lo 0)) from hR.out)
   have e2:IntKind.i64.wrap (lo+(m:Int))=lo+(m:Int):=IntWalk.i64_in _ (by omega)
   clear hR hm hmt hlo c1' c2' c4'
   go_wp2
   clear r0 r1 r2 r3 r4 r5 t1
   go_loopw [10,12] (fun u x wr=>∃ j:Nat,j≤m∧x = .int .i64 (lo+(j:Int))∧Hid (wr.ownsRow W5.heap.size 78 2 u (hrP S P k lo j).length (ppCs (hrP S P k lo j)))∧Hid (Below W5.heap.size W5 wr)) (fun _ x _=>m-(intOf x-lo).toNat)
   case atStart=>exact ⟨0,Nat.zero_le _,by simp,HR1,hG⟩
   clear HR1 hG
   obtain ⟨j,hj,rfl,hR,hG⟩:=hrel
   have t1:wr.cell? ⟨w.heap.size,1,none⟩=some (.slice (some ⟨b,o,none⟩) S.rs.length c2):=(HS5.out.below hG.out).cell 1
   obtain ⟨r4,r5⟩:=HRA.out wr hG.out
   have HJL:=hid (HPL.out k lo j (by omega))
   by_cases hjm:j<m
   ·have d1:decide (lo+(j:Int)<lo+(m:Int))=true:=decide_eq_true (by omega)
    have HPJ:=hid (HPA.out j hjm)
    have HNX:=hid (hrP_next S P k lo j)
    have HQJ:=hid (HQ.out ((k:Int),lo+(j:Int)))
    have HMJ:=hid (HML.out _ HPJ.out)
    have e3:IntKind.i64.wrap (lo+(j:Int)+1)=lo+(j:Int)+1:=IntWalk.i64_in _ (by omega)
    go_upto_region 8 with fail
    go_quiet (fail)
    have hbq:Below wr.heap.size wr (wr.drewN nq):=below_drewN (Below.refl _ _) nq
    have HRq:=hid (row_later hR.out hbq)
    have HGq:=hid (below_step hG.out hbq)
    obtain ⟨W8,hW8⟩:∃ W8,wr.drewN nq=W8:=⟨_,rfl⟩
    rw [hW8] at HRq HGq ⊢
    clear hR hG t1 r4 r5 hbq hW8
    go_upto_region 11 with fail
    have hba:Below W8.heap.size W8 (W8.alloc (.cells #[.int .i64 k,.int .i64 (lo+j)] 78)):=(Below.refl _ _).alloc (Nat.le_refl _) _
    have HR9:=hid (row_later HRq.out hba)
    have HG9:=hid (below_step HGq.out hba)
    have HX9:=hid (Blk.new W8 78 #[.int .i64 k,.int .i64 (lo+j)])
    obtain ⟨X,hX⟩:∃ X,W8.heap.size=X:=⟨_,rfl⟩
    obtain ⟨W9,hW9⟩:∃ W9,W8.alloc (.cells #[.int .i64 k,.int .i64 (lo+j)] 78)=W9:=⟨_,rfl⟩
    rw [hW9] at HR9 HG9 HX9 ⊢
    rw [hX] at HX9 ⊢
    clear hba hX hW9 HRq HGq
    go_wp2_with fail
    refine (HIN.out _ (below_step HB5.out HG9.out) 1 k (lo+j)).mono ?_
    rintro e W10 ⟨rfl,hb10⟩
    have HRA2:=hid (row_later HR9.out hb10)
    have HGA:=hid (below_step HG9.out hb10)
    have HXA:=hid (HX9.out.below hb10)
    clear hb10 HR9 HG9 HX9
    obtain ⟨b0,hb0⟩:∃ b0,decide (((1,(k:Int),lo+(j:Int)):Ft)∈F)=b0:=⟨_,rfl⟩
    rw [hb0]
    try simp only at HQJ
    rw [hb0] at HQJ
    have HG10:=hid (Below.refl W10.heap.size W10)
    clear hb0
    go_wp2
    go_loopw [14,15] (fun q y wr=>∃ i:Nat,i≤l.length∧q = .bool (b0||decide (((k:Int),lo+(j:Int))∈l.take i))∧y = .int .i64 i∧Hid (Below W10.heap.size W10 wr)) (fun _ y _=>l.length-(intOf y).toNat)
    case atStart=>exact ⟨0,Nat.zero_le _,by simp,rfl,HG10⟩
    clear HG10
    obtain ⟨i,hi,rfl,rfl,hGi⟩:=hrel
    by_cases hil:i<l.length
    ·have hi2:(i:Int)<(l.length:Int):=by omega
     obtain ⟨bp,op,cp,ev,_,p0,p1⟩:=(HAL.out.later (below_step HGA.out hGi.out)).ppAt i hil
     cases ev
     have HT:=hid (show decide (((k:Int),lo+(j:Int))∈l.take (i+1))=(decide (((k:Int),lo+(j:Int))∈l.take i)||(l[i].1==(k:Int)&&l[i].2==lo+(j:Int))) from by
      rw [List.take_succ_eq_append_getElem hil,Bool.eq_iff_iff,Bool.or_eq_true,decide_eq_true_iff,decide_eq_true_iff,Bool.and_eq_true,beq_iff_eq,beq_iff_eq,List.mem_append,List.mem_singleton]
      exact ⟨fun h=>h.imp id (fun e=>by rw [← e];exact ⟨rfl,rfl⟩),fun h=>h.imp id (fun e=>(Prod.ext e.1 e.2).symm)⟩)
     obtain ⟨z,hz⟩:∃ z,l[i]=z:=⟨_,rfl⟩
     rw [hz] at p0 p1 HT
     obtain ⟨z1,z2⟩:=z
     simp only at p0 p1
     have heq:=run_eqPp z1 z2 k (lo+j)
     obtain ⟨x0,x1⟩:wr.cell? ⟨X,0,none⟩=some (.int .i64 k)∧wr.cell? ⟨X,1,none⟩=some (.int .i64 (lo+j)):=⟨(HXA.out.below hGi.out).cell 0,(HXA.out.below hGi.out).cell 1⟩
     obtain ⟨q,hq⟩:∃ q,(b0||decide (((k:Int),lo+(j:Int))∈l.take i))=q:=⟨_,rfl⟩
     have HT2:=hid (show (b0||decide (((k:Int),lo+(j:Int))∈l.take (i+1)))=(q||(z1==(k:Int)&&z2==lo+(j:Int))) from by rw [HT.out,← Bool.or_assoc,hq])
     rw [hq]
     clear hz hq HT
     go_upto_region 15 with fail
     cases q with
     | true =>
      go_quiet (fail)
      have HGn:=hid (below_drewN hGi.out nq)
      clear hGi p0 p1 x0 x1 heq
      go_wp2
      go_roundw
      case rel=>exact ⟨i+1,by omega,by rw [HT2.out];rfl,by go_num,HGn⟩
      case measure=>simp [intOf];omega
     | false =>
      go_quiet (fail)
      have HGn:=hid (below_drewN hGi.out nq)
      clear hGi p0 p1 x0 x1 heq
      go_wp2
      go_roundw
      case rel=>exact ⟨i+1,by omega,by rw [HT2.out];rfl,by go_num,HGn⟩
      case measure=>simp [intOf];omega
    have hi2:¬ (i:Int)<(l.length:Int):=by omega
    have hie:i=l.length:=by omega
    have HTE:=hid (show (b0||decide (((k:Int),lo+(j:Int))∈l.take i))=(b0||B (onF F (onH H)) ((k:Int),lo+(j:Int))) from by rw [hie,List.take_length,HMJ.out])
    rw [HTE.out]
    have HRB:=hid (row_later HRA2.out hGi.out)
    have HGB:=hid (below_step HGA.out hGi.out)
    have HXB:=hid (HXA.out.below hGi.out)
    clear hie HTE HRA2 HGA HXA hGi
    obtain ⟨q,hq⟩:∃ q,(b0||B (onF F (onH H)) ((k:Int),lo+(j:Int)))=q:=⟨_,rfl⟩
    rw [hq] at HQJ ⊢
    clear hq
    cases q with
    | false =>
     have HN2:=hid (show hrP S P k lo (j+1)=hrP S P k lo j from by rw [HNX.out,HQJ.out,Bool.false_and,if_neg (by decide),List.append_nil])
     clear HNX HQJ
     go_wp2
     go_roundw
     case rel=>exact ⟨j+1,by omega,by go_num,by rw [HN2.out];exact HRB,HGB⟩
     case measure=>simp [intOf];omega
    | true =>
     go_wp2_with fail
     refine (HIN.out _ (below_step HB5.out HGB.out) 2 k (lo+j)).mono ?_
     rintro e W12 ⟨rfl,hb12⟩
     replace HRB:=hid (row_later HRB.out hb12)
     replace HGB:=hid (below_step HGB.out hb12)
     replace HXB:=hid (HXB.out.below hb12)
     clear hb12
     cases hr2:decide (((2,(k:Int),lo+(j:Int)):Ft)∈F) with
     | true =>
      rw [hr2] at HQJ
      have HN2:=hid (show hrP S P k lo (j+1)=hrP S P k lo j from by rw [HNX.out,HQJ.out,Bool.not_true,Bool.and_false,if_neg (by decide),List.append_nil])
      clear hr2 HNX HQJ
      go_wp2
      go_roundw
      case rel=>exact ⟨j+1,by omega,by go_num,by rw [HN2.out];exact HRB,HGB⟩
      case measure=>simp [intOf];omega
     | false =>
      rw [hr2] at HQJ
      have HN2:=hid (show hrP S P k lo (j+1)=hrP S P k lo j++[((k:Int),lo+(j:Int))] from by rw [HNX.out,HQJ.out,Bool.not_false,Bool.true_and,if_pos rfl])
      obtain ⟨x0,x1⟩:W12.cell? ⟨X,0,none⟩=some (.int .i64 k)∧W12.cell? ⟨X,1,none⟩=some (.int .i64 (lo+j)):=⟨HXB.out.cell 0,HXB.out.cell 1⟩
      obtain ⟨M,hM⟩:∃ M,hrP S P k lo j=M:=⟨_,rfl⟩
      have hML:=HJL.out
      rw [hM] at hML HRB HN2
      have hsz:=HGB.out.size
      clear hr2 HNX HQJ hM
      go_wp2_with (at_builtin;refine wpList_append_lies _ rfl _ _ 50 rfl W5.heap.size 78 i0 _ 2 16 Tryz.underlying50 hi0 hz0 hz1 hz2 rfl (by omega) _ _ _ rfl (HRB.out.alloc _) ⟨W12.heap.size,0,none⟩ 1 1 [.int .i64 k,.int .i64 (lo+j)] rfl rfl (World.news_of_block (cs:=#[.int .i64 k,.int .i64 (lo+j)]) (t:=78) (fr:=(0,0)) (heap_alloc_new W12 _)) (by simp [Value.oneCell']) (by omega) (by unfold maxLen;omega) (by omega) (by simp;omega) (W12.heap.size+1) (by simp) ?_;intro gg cap w3 hown3 hgrow hat3 hlt3)
      have HP:=hid (show w3.ownsRow W5.heap.size 78 2 (.slice (some ⟨gg,0,none⟩) (M.length+1) cap) (hrP S P k lo (j+1)).length (ppCs (hrP S P k lo (j+1))) from by
       rw [HN2.out,ppCs_snoc,List.length_append,List.length_singleton]
       exact hown3)
      have HGP:=hid (push_low HGB.out HRB.out hgrow)
      clear hown3 hgrow hat3 hlt3 x0 x1
      try go_wp2
      refine ⟨⟨j+1,by omega,by go_num,HP,HGP⟩,?_⟩
      simp [intOf]
      omega
   ·have d1:decide (lo+(j:Int)<lo+(m:Int))=false:=decide_eq_false (by omega)
    have hje:j=m:=by omega
    rw [hje,← HRN.out] at hR
    clear hje
    go_upto_region 8 with fail
    go_quiet (fail)
    have hbq:Below wr.heap.size wr (wr.drewN nq):=below_drewN (Below.refl _ _) nq
    have HRq:=hid (row_later hR.out hbq)
    have HGq:=hid (below_step hG.out hbq)
    clear hR hG t1 r4 r5 hbq
    go_wp2
    go_roundw
    case rel=>exact ⟨k+1,by omega,by go_num,HRq,HGq⟩
    case measure=>simp [intOf];omega
  ·have hk2:¬ (k:Int)<(S.rs.length:Int):=by omega
   have hke:k=S.rs.length:=by omega
   rw [hke,HRES.out] at hR
   have HGE:=hid (below_step HB5.out hG.out)
   have HRE:=hid (row_base hR.out HB5.out.size)
   clear hke
   go_wp2
   go_ret
   exact ⟨_,rfl,HRE.out,HGE.out⟩
end Go.Proofs.YteflhbfgpknabaaGreatDoor
