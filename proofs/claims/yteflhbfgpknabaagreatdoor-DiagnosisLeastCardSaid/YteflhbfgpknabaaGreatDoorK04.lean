/-
  A part of the proof: RF,RG,L43.
-/
import Derived.Test.YteflhbfgpknabaaGreatDoorK01
import Derived.Test.YteflhbfgpknabaaGreatDoorL26
import Derived.Test.YteflhbfgpknabaaGreatDoorK02
import Derived.Deep.RegionHeld3
import Derived.Test.YteflhbfgpknabaaGreatDoorK03
import Derived.Test.YteflhbfgpknabaaGreatDoorL30
set_option maxRecDepth 100000
set_option maxHeartbeats 12800000
namespace Go.Proofs.YteflhbfgpknabaaGreatDoor
open Go.Lib (hid)
open Go.RowKit Go.Shelf
def cntX (C:List (List Pp)) (x:List Pp) (j:Nat):Nat:=((C.take j).filter fun c=>decide (x=c)).length
theorem cntX_step {C:List (List Pp)} {x:List Pp} {j:Nat} (hj:j<C.length):cntX C x (j+1)=cntX C x j+(if x=C[j] then 1 else 0):=by
 unfold cntX
 rw [filter_snoc hj]
 simp only [decide_eq_true_iff]
theorem cntX_le {C:List (List Pp)} {x:List Pp} {j:Nat}:cntX C x j≤j:=by
 unfold cntX
 exact Nat.le_trans (List.length_filter_le _ _) (by rw [List.length_take];omega)
def mosN (C:List (List Pp)) (i:Nat):Nat:=((C.take i).map fun x=>cntX C x C.length).foldl max 0
theorem mosN_step {C:List (List Pp)} {i:Nat} (hi:i<C.length):mosN C (i+1)=max (mosN C i) (cntX C C[i] C.length):=by
 unfold mosN
 rw [List.take_succ_eq_append_getElem hi,List.map_append,List.foldl_append]
 rfl
theorem mosN_le {C:List (List Pp)}:∀ i,mosN C i≤C.length
 | 0=>Nat.zero_le _
 | i+1=>by
  by_cases hi:i<C.length
  ·rw [mosN_step hi]
   have h1:=mosN_le (C:=C) i
   have h2:=cntX_le (C:=C) (x:=C[i]) (j:=C.length)
   omega
  ·have e:mosN C (i+1)=mosN C i:=by unfold mosN;rw [List.take_of_length_le (by omega),List.take_of_length_le (by omega)]
   rw [e]
   exact mosN_le i
theorem mosN_end {S:Sp} {B:(Th→Int)→Pp→Bool} {M:List (List Ft)} {f:Th→Int}:mosN (M.map fun F=>hearL S B F f) (M.map fun F=>hearL S B F f).length=leftN S B M f:=by
 unfold mosN leftN
 rw [List.take_length,List.map_map]
 congr 1
 refine List.map_congr_left fun F _=>?_
 unfold sameN cntX
 simp only [Function.comp]
 rw [List.take_length,List.filter_map,List.length_map]
 rfl
theorem row_at {W:World} {base n:Nat} {t:TypeId} {v:Value} {g:Nat→Value} (h:W.ownsRow base t 1 v n ((List.range n).map g)) {i:Nat} (hi:i<n):∃ b o c,v = .slice (some ⟨b,o,none⟩) n c∧b<W.heap.size∧W.cell? ⟨b,o+i,none⟩=some (g i):=by
 have h2:ARd W v 1 ((List.range n).map fun i=>[g i]):=ARd.of_row (by intro r hr;obtain ⟨x,_,rfl⟩:=List.mem_map.1 hr;rfl) (by
  have e:((List.range n).map fun i=>[g i]).flatten=(List.range n).map g:=by
   generalize List.range n=l
   induction l with
   | nil=>rfl
   | cons a l ih=>rw [List.map_cons,List.flatten_cons,ih];rfl
  rw [e,List.length_map,List.length_range]
  exact h)
 obtain ⟨b,o,c,e,hlt,hc⟩:=h2.at i (by simpa using hi)
 rw [List.getElem_map,List.getElem_range] at hc
 rw [List.length_map,List.length_range] at e
 exact ⟨b,o,c,e,hlt,by have:=hc 0 _ rfl;rwa [Nat.mul_one] at this⟩
section
variable {w W W' : World} {v1 v2 v3 v4 vk vs vc uh un : Value} {C : List (List Pp)} {N : List Int} {gh : Nat → Value}
theorem LfW.pushG (h:LfW w v1 v2 v3 v4 vk vs vc C N gh uh un W) {m:List Pp} {mv uh':Value} (hm:W.ownsRow w.heap.size 78 2 mv m.length (ppCs m)) (hg:W.grownBy W' uh.ownBlock) (ho:W'.ownsRow w.heap.size 50 1 uh' (C.length+1) ((List.range C.length).map gh++[mv])) :
  LfW w v1 v2 v3 v4 vk vs vc (C++[m]) N (fun i=>if i=C.length then mv else gh i) uh' un W':=by
 refine ⟨h.b.grown hg h.b.size (fun k e=>row_ge h.row e),h.sp.grown hg (row_not h.row h.sp (by decide)),h.hd.grown hg (row_not h.row h.hd (by decide)),?_,fun i hi=>?_,h.nr.kept hg (row_apart h.nr h.row (by decide))⟩
 ·have e:(List.range (C++[m]).length).map (fun i=>if i=C.length then mv else gh i)=(List.range C.length).map gh++[mv]:=by
   rw [List.length_append,List.length_singleton,List.range_succ,List.map_append,List.map_singleton,if_pos rfl]
   congr 1
   refine List.map_congr_left fun i hi=>?_
   rw [if_neg (by have:=List.mem_range.1 hi;omega)]
  rw [e,List.length_append,List.length_singleton]
  exact ho
 ·rw [List.length_append,List.length_singleton] at hi
  by_cases e:i=C.length
  ·subst e
   have e2:(C++[m])[C.length]=m:=by simp
   simp only [if_pos]
   rw [e2]
   exact hm.kept hg (row_apart hm h.row (by decide))
  ·simp only [if_neg e]
   rw [List.getElem_append_left (by omega)]
   exact (h.cs i (by omega)).kept hg (row_apart (h.cs i (by omega)) h.row (by decide))
end
theorem slice_one' {W:World} {base n:Nat} {t:TypeId} {k:Nat} {v:Value} {xs:List Value} (h:W.ownsRow base t k v n xs):v.oneCell'=true:=by
 obtain ⟨a,c,rfl⟩:=own_form h
 rfl
theorem append_pl (W:World) (base:Nat) (V:Value) (n:Nat) (xs:List Value) (hown:W.ownsRow base 50 1 V n xs) {b:Nat} {u:Value} (hk:Blk W b 50 #[u]) (hu:u.oneCell'=true) (hl:n+1≤1000000000) (hb:base≤W.heap.size) :
  ∃ V' w',(Builtin.append_ #[153,153] 153 #[V,.slice (some ⟨b,0,none⟩) 1 1]).run Tryz.prog W = .ok V' w'∧w'.ownsRow base 50 1 V' (n+1) (xs++[u])∧W.grownBy w' V.ownBlock:=by
 obtain ⟨i0,hi,hz0,hz1,hz2⟩:=info_parts pps_info
 exact append_srcW W base 153 50 i0 _ 1 24 Tryz.underlying153 hi hz0 hz1 hz2 rfl (by omega) (by omega) V n xs hown (.slice (some ⟨b,0,none⟩) 1 1) [[u]] (by intro r hr;rw [List.mem_singleton.1 hr];rfl) (by intro x hx;have e:x=u:=(by simpa using hx);rw [e];exact hu) (ard_of_blk (k:=1) hk (by intro r hr;rw [List.mem_singleton.1 hr];rfl) rfl _ _ rfl) hl hb
theorem left30_any (v1 v2 v3 v4:Value) (S:Sp) (ok:SpWk S) (hc:(checkP S).2=0) (fp:Nat→Value) (vk vs vc:Value) (H:Hn) (hH:HnOk S H) (M:List (List Ft)) (hM:∀ F∈M,FtsOk S F∧F.length≤10) (hMl:M.length≤1000000) (lv:Value) (g:Nat→Value) (B:(Th→Int)→Pp→Bool) (hB:SndIs S B) (w:World) (hsp:SpRd w v1 v2 v3 v4 fp S) (hh:HnRd w vk vs vc H) (hlv:StsRd w lv M g) :
  Calls Tryz.prog 58 #[.agg #[v1,v2,v3,v4],lv,.agg #[vk,vs,vc]] w (NumR (leftN S B M (onH H)) w):=by
 obtain ⟨la,lc,rfl⟩:=hlv.form
 obtain ⟨⟨ka,kc,rfl⟩,⟨sa,sc,rfl⟩,⟨ca,cc,rfl⟩⟩:=hh.forms
 have hb0:=below_two w (.cells #[v1,v2,v3,v4] 27) (.cells #[.slice ka H.ks.length kc,.slice sa H.ss.length sc,.slice ca H.cs.length cc] 32)
 have k0:=(Blk.new w 27 #[v1,v2,v3,v4]).alloc (.cells #[.slice ka H.ks.length kc,.slice sa H.ss.length sc,.slice ca H.cs.length cc] 32)
 have k1:=Blk.new (w.alloc (.cells #[v1,v2,v3,v4] 27)) 32 #[.slice ka H.ks.length kc,.slice sa H.ss.length sc,.slice ca H.cs.length cc]
 rw [World.size_alloc] at k1
 have HW0:=hid (show LfW w v1 v2 v3 v4 (.slice ka H.ks.length kc) (.slice sa H.ss.length sc) (.slice ca H.cs.length cc) [] [] (fun _ => .nilFunc) (.slice none 0 0) (.slice none 0 0) _ from ⟨hb0,k0,k1,World.ownsRow_nil _ _ _ _,fun i hi=>absurd hi (Nat.not_lt_zero i),World.ownsRow_nil _ _ _ _⟩)
 have HLV:=hid hlv
 have HHE:=hid (fun (F:List Ft) (hF:F∈M) (u:Value) (W:World) (hb:Below w.heap.size w W) (hu:ARd W u 3 (F.map ftC))=>hears30_any v1 v2 v3 v4 S ok hc fp (.slice ka H.ks.length kc) (.slice sa H.ss.length sc) (.slice ca H.cs.length cc) u H hH F (hM F hF).1.ok (by have:=(hM F hF).2;omega) B hB W (hsp.later hb) (hh.later hb) hu)
 have HLN:=hid (show ∀ F,(hearL S B F (onH H)).length≤1000000 from fun F=>Nat.le_trans (List.length_filter_le _ _) (by
  have h1:=allFrom_len (spGood hc).r 0
  have h2:=sp_lens hc
  omega))
 obtain ⟨C,hC⟩:∃ C,(M.map fun F=>hearL S B F (onH H))=C:=⟨_,rfl⟩
 have hCl:C.length=M.length:=by rw [← hC,List.length_map]
 have HCN:=hid (fun (k:Nat) (hk:k<M.length) (hk2:k<C.length)=>show C[k]=hearL S B M[k] (onH H) from by simp only [← hC,List.getElem_map])
 have HCL:=hid hCl
 have HME:=hid (show mosN C C.length=leftN S B M (onH H) from by rw [← hC];exact mosN_end)
 have HCX:=hid (show ∀ x∈C,x.length≤1000000 from fun x hx=>by
  rw [← hC] at hx
  obtain ⟨F,_,rfl⟩:=List.mem_map.1 hx
  exact HLN.out F)
 clear hC hCl hb0 k0 k1 ok hc hH hM hB hsp hh hlv
 go_enter Tryz.func58,Tryz.ntmps58
 go_wp2
 generalize (w.alloc (.cells #[v1,v2,v3,v4] 27)).alloc (.cells #[.slice ka H.ks.length kc,.slice sa H.ss.length sc,.slice ca H.cs.length cc] 32)=W0 at *
 go_loopw [8,9] (fun uh x wr=>∃ (k:Nat) (D:List (List Pp)) (gh:Nat→Value),k≤M.length∧x = .int .i64 k∧D.length=k∧Hid (D=C.take k)∧Hid (LfW w v1 v2 v3 v4 (.slice ka H.ks.length kc) (.slice sa H.ss.length sc) (.slice ca H.cs.length cc) D [] gh uh (.slice none 0 0) wr)) (fun _ x _=>M.length-(intOf x).toNat)
 case atStart=>exact ⟨0,[],_,Nat.zero_le _,rfl,rfl,hid rfl,HW0⟩
 clear HW0
 obtain ⟨k,D,gh,hk,rfl,hDl,hD,hW⟩:=hrel
 by_cases hkl:k<M.length
 ·have hk2:(k:Int)<(M.length:Int):=by omega
  have hk0:(0:Int)≤(k:Int):=by omega
  have HDL:=hid hDl
  obtain ⟨b,o,c',ev,_,q0⟩:=(HLV.out.later hW.out.b).at' hkl
  cases ev
  have HQ:=hid (fun (z:World) (hb:Below wr.heap.size wr z)=>show z.cell? ⟨b,o+k,none⟩=some (g k) from (hb.cell (cell_size q0)).trans q0)
  have HFD:=hid (fun (W:World) (hb:Below w.heap.size w W)=>HHE.out M[k] (List.getElem_mem hkl) (g k) W hb ((HLV.out.later hb).st k hkl))
  obtain ⟨fa,fc,ef⟩:=((HLV.out.later hW.out.b).st k hkl).ftForm
  have HDN:=hid (show D++[hearL S B M[k] (onH H)]=C.take (k+1) from by
   have hkc:k<C.length:=by rw [HCL.out];exact hkl
   rw [List.take_succ_eq_append_getElem hkc,← hD.out,HCN.out k hkl hkc])
  rw [ef] at HFD HQ
  obtain ⟨m,hm⟩:∃ m,hearL S B M[k] (onH H)=m:=⟨_,rfl⟩
  rw [hm] at HFD HDN
  obtain ⟨fl,hfl⟩:∃ fl,M[k].length=fl:=⟨_,rfl⟩
  rw [hfl] at HFD HQ
  clear ef hm hfl q0 hDl
  obtain ⟨ha,hac,rfl⟩:=own_form hW.out.row
  go_upto_region 6 with fail
  have hmxx:Tryz.prog.follows .mixedOrders=true:=by kernel_rfl
  refine wp_normal (wp_region_flowN (fun xX=>{ tmps:=#[.agg #[v1,v2,v3,v4],.slice (some ⟨b,o,none⟩) M.length lc,.agg #[.slice ka H.ks.length kc,.slice sa H.ss.length sc,.slice ca H.cs.length cc],.pointer (some ⟨w.heap.size,0,none⟩),undef,.pointer (some ⟨w.heap.size+1,0,none⟩),.int .i64 0,.int .i64 0,(xX 8),.int .i64 (k:Int),undef,undef,undef,.int .i64 (k:Int),.slice (some ⟨b,o,none⟩) M.length lc,.int .i64 (M.length:Int),.bool true,u17,u18,(xX 19),(xX 20),(xX 21),(xX 22),(xX 23),(xX 24),(xX 25),(xX 26),(xX 27),(xX 28),undef,undef,undef,undef,undef,undef,undef,undef,undef,undef,undef,undef,undef,undef,undef,undef,undef,undef,undef,undef,undef,undef,undef,undef,undef,undef,undef],defers:=[] }) (fun iI v z=>match iI with
   | 0=>v = .slice ha D.length hac
   | 1=>v = .agg #[v1,v2,v3,v4]
   | 2=>v = .slice (some ⟨b,o,none⟩) M.length lc
   | 3=>v = .int .i64 (k:Int)
   | 4=>v = .pointer (some ⟨b,o+k,none⟩)
   | 5=>v = .slice fa fl fc
   | 6=>v = .agg #[.slice ka H.ks.length kc,.slice sa H.ss.length sc,.slice ca H.cs.length cc]
   | 7=>∃ (a7:Option Addr) (c7:Nat),v = .slice a7 m.length c7∧z.ownsRow wr.heap.size 78 2 (.slice a7 m.length c7) m.length (ppCs m)
   | 8=>∃ (b8:Nat) (a8:Option Addr) (c8:Nat),v = .slice (some ⟨b8,0,none⟩) 1 1∧Blk z b8 50 #[.slice a8 m.length c8]∧z.ownsRow wr.heap.size 78 2 (.slice a8 m.length c8) m.length (ppCs m)
   | 9=>∃ V9,v=V9∧∃ g9,LfW w v1 v2 v3 v4 (.slice ka H.ks.length kc) (.slice sa H.ss.length sc) (.slice ca H.cs.length cc) (D++[m]) [] g9 V9 (.slice none 0 0) z
   | 10=>True
   | _=>True) [(4,2),(4,3),(5,4),(7,1),(7,5),(7,6),(8,7),(9,0),(9,8),(10,9)] (JD 10 8 (.slice ha D.length hac) (JA 9 10 wr (fun xX z=>∃ V9,xX 8=V9∧∃ g9,LfW w v1 v2 v3 v4 (.slice ka H.ks.length kc) (.slice sa H.ss.length sc) (.slice ca H.cs.length cc) (D++[m]) [] g9 V9 (.slice none 0 0) z))) (fun n=>(#[.agg #[v1,v2,v3,v4],.slice (some ⟨b,o,none⟩) M.length lc,.agg #[.slice ka H.ks.length kc,.slice sa H.ss.length sc,.slice ca H.cs.length cc],.pointer (some ⟨w.heap.size,0,none⟩),undef,.pointer (some ⟨w.heap.size+1,0,none⟩),.int .i64 0,.int .i64 0,.slice ha D.length hac,.int .i64 (k:Int),undef,undef,undef,.int .i64 (k:Int),.slice (some ⟨b,o,none⟩) M.length lc,.int .i64 (M.length:Int),.bool true,u17,u18,u19,u20,u21,u22,u23,u24,u25,u26,u27,u28,undef,undef,undef,undef,undef,undef,undef,undef,undef,undef,undef,undef,undef,undef,undef,undef,undef,undef,undef,undef,undef,undef,undef,undef,undef,undef,undef]:Array Value).getD n undef) rfl hmxx (by kernel_rfl) (by kernel_rfl) (by kernel_rfl) (jd_start (ja_start (of_decide_eq_true (by kernel_rfl))) rfl) (jd_cong (of_decide_eq_true (by kernel_rfl)) (fun ℓ ℓ' xX w h hj=>ja_cong (of_decide_eq_true (by kernel_rfl)) (of_decide_eq_true (by kernel_rfl)) ℓ ℓ' xX w h hj)) ?put ?step ?done)
  case put =>
   intro iI oO dD ho hd xX vV
   match iI,ho with
   | 0,ho | 1,ho | 2,ho | 3,ho | 4,ho | 5,ho | 6,ho | 7,ho | 8,ho | 9,ho | 10,ho => obtain rfl:=oj ho;obtain rfl:=oj hd;rfl
   | n+11,ho=>exact absurd (Array.getElem?_eq_some_iff.1 ho).1 (by simp)
  case step =>
   intro iI oO ho ℓ xX z hj hli hup hdl hdep K hK
   match iI,ho with
   | 0,ho =>
    obtain rfl:=oj ho
    have hls:ℓ 10=false:=hup 12 10 (by kernel_rfl)
    have hPl:=fun (vv:Value) w' (hb:Below z.heap.size z w')=>jd_plain (i:=0) hj (ja_plain (i:=0) (x':=putX xX (some 19) vv) hj.1 (by decide) (by decide) hls hb) (by decide) rfl
    clear hdep ho hup
    dsimp only at hK ⊢
    simp only [(show xX 8=_ from hj.2 hls)] at hK ⊢
    refine wpOp_step rfl (fun K2 hK2=>?_)
    go_simp
    exact hK2 _ _ (hK _ _ (hPl _ _ (Below.refl _ _)) (fun _ _ _ _ h=>h) rfl)
   | 1,ho =>
    obtain rfl:=oj ho
    have hls:ℓ 10=false:=hup 12 10 (by kernel_rfl)
    have hPl:=fun (vv:Value) w' (hb:Below z.heap.size z w')=>jd_plain (i:=1) hj (ja_plain (i:=1) (x':=putX xX (some 20) vv) hj.1 (by decide) (by decide) hls hb) (by decide) rfl
    have hz:=hj.1.1 (hup 12 9 (by kernel_rfl))
    obtain ⟨s0,s1,s2,s3⟩:=(hW.out.later hz).sp.four
    clear hdep ho hup
    dsimp only at hK ⊢
    refine wpOp_step rfl (fun K2 hK2=>?_)
    go_simp
    exact hK2 _ _ (hK _ _ (hPl _ _ (Below.refl _ _)) (fun _ _ _ _ h=>h) rfl)
   | 2,ho =>
    obtain rfl:=oj ho
    have hls:ℓ 10=false:=hup 12 10 (by kernel_rfl)
    have hPl:=fun (vv:Value) w' (hb:Below z.heap.size z w')=>jd_plain (i:=2) hj (ja_plain (i:=2) (x':=putX xX (some 21) vv) hj.1 (by decide) (by decide) hls hb) (by decide) rfl
    clear hdep ho hup
    dsimp only at hK ⊢
    refine wpOp_step rfl (fun K2 hK2=>?_)
    go_simp
    exact hK2 _ _ (hK _ _ (hPl _ _ (Below.refl _ _)) (fun _ _ _ _ h=>h) rfl)
   | 3,ho =>
    obtain rfl:=oj ho
    have hls:ℓ 10=false:=hup 12 10 (by kernel_rfl)
    have hPl:=fun (vv:Value) w' (hb:Below z.heap.size z w')=>jd_plain (i:=3) hj (ja_plain (i:=3) (x':=putX xX (some 22) vv) hj.1 (by decide) (by decide) hls hb) (by decide) rfl
    clear hdep ho hup
    dsimp only at hK ⊢
    refine wpOp_step rfl (fun K2 hK2=>?_)
    go_simp
    exact hK2 _ _ (hK _ _ (hPl _ _ (Below.refl _ _)) (fun _ _ _ _ h=>h) rfl)
   | 4,ho =>
    obtain rfl:=oj ho
    have q2:xX 21 = .slice (some ⟨b,o,none⟩) M.length lc:=hdep 2 (by kernel_rfl) _ _ rfl rfl
    have q3:xX 22 = .int .i64 (k:Int):=hdep 3 (by kernel_rfl) _ _ rfl rfl
    have hls:ℓ 10=false:=hup 12 10 (by kernel_rfl)
    have hPl:=fun (vv:Value) w' (hb:Below z.heap.size z w')=>jd_plain (i:=4) hj (ja_plain (i:=4) (x':=putX xX (some 23) vv) hj.1 (by decide) (by decide) hls hb) (by decide) rfl
    clear hdep ho hup
    dsimp only at hK ⊢
    simp only [q2,q3] at hK ⊢
    refine wpOp_step rfl (fun K2 hK2=>?_)
    go_simp
    exact hK2 _ _ (hK _ _ (hPl _ _ (Below.refl _ _)) (fun _ _ _ _ h=>h) rfl)
   | 5,ho =>
    obtain rfl:=oj ho
    have q4:xX 23 = .pointer (some ⟨b,o+k,none⟩):=hdep 4 (by kernel_rfl) _ _ rfl rfl
    have hls:ℓ 10=false:=hup 12 10 (by kernel_rfl)
    have hPl:=fun (vv:Value) w' (hb:Below z.heap.size z w')=>jd_plain (i:=5) hj (ja_plain (i:=5) (x':=putX xX (some 24) vv) hj.1 (by decide) (by decide) hls hb) (by decide) rfl
    have hz:=hj.1.1 (hup 12 9 (by kernel_rfl))
    have q0:=HQ.out z hz
    clear hdep ho hup
    dsimp only at hK ⊢
    simp only [q4] at hK ⊢
    refine wpOp_step rfl (fun K2 hK2=>?_)
    go_simp
    exact hK2 _ _ (hK _ _ (hPl _ _ (Below.refl _ _)) (fun _ _ _ _ h=>h) rfl)
   | 6,ho =>
    obtain rfl:=oj ho
    have hls:ℓ 10=false:=hup 12 10 (by kernel_rfl)
    have hPl:=fun (vv:Value) w' (hb:Below z.heap.size z w')=>jd_plain (i:=6) hj (ja_plain (i:=6) (x':=putX xX (some 25) vv) hj.1 (by decide) (by decide) hls hb) (by decide) rfl
    have hz:=hj.1.1 (hup 12 9 (by kernel_rfl))
    have hd:=(hW.out.later hz).hd
    obtain ⟨h0,h1,h2⟩:z.cell? ⟨w.heap.size+1,0,none⟩=some (.slice ka H.ks.length kc)∧z.cell? ⟨w.heap.size+1,1,none⟩=some (.slice sa H.ss.length sc)∧z.cell? ⟨w.heap.size+1,2,none⟩=some (.slice ca H.cs.length cc):=⟨hd.cell 0,hd.cell 1,hd.cell 2⟩
    clear hdep ho hup
    dsimp only at hK ⊢
    refine wpOp_step rfl (fun K2 hK2=>?_)
    go_simp
    exact hK2 _ _ (hK _ _ (hPl _ _ (Below.refl _ _)) (fun _ _ _ _ h=>h) rfl)
   | 7,ho =>
    obtain rfl:=oj ho
    have q1:xX 20 = .agg #[v1,v2,v3,v4]:=hdep 1 (by kernel_rfl) _ _ rfl rfl
    have q5:xX 24 = .slice fa fl fc:=hdep 5 (by kernel_rfl) _ _ rfl rfl
    have q6:xX 25 = .agg #[.slice ka H.ks.length kc,.slice sa H.ss.length sc,.slice ca H.cs.length cc]:=hdep 6 (by kernel_rfl) _ _ rfl rfl
    have hls:ℓ 10=false:=hup 12 10 (by kernel_rfl)
    have hPl:=fun (vv:Value) w' (hb:Below z.heap.size z w')=>jd_plain (i:=7) hj (ja_plain (i:=7) (x':=putX xX (some 26) vv) hj.1 (by decide) (by decide) hls hb) (by decide) rfl
    have hz:=hj.1.1 (hup 12 9 (by kernel_rfl))
    clear hdep ho hup
    dsimp only at hK ⊢
    simp only [q1,q5,q6] at hK ⊢
    refine wpOp_step rfl (fun K2 hK2=>?_)
    go_simp
    refine (HFD.out z (below_step hW.out.b hz)).mono ?_
    rintro e z1 ⟨uu,rfl,hr,hb⟩
    obtain ⟨a7,c7,rfl⟩:=own_form hr
    refine hK2 _ _ (hK _ _ (hPl _ _ hb) ?_ ⟨a7,c7,rfl,row_base hr hz.size⟩)
    intro jj v' hlj hp h
    match jj,hlj,hp,h with
    | 0,hlj,hp,h=>exact h
    | 1,hlj,hp,h=>exact h
    | 2,hlj,hp,h=>exact h
    | 3,hlj,hp,h=>exact h
    | 4,hlj,hp,h=>exact h
    | 5,hlj,hp,h=>exact h
    | 6,hlj,hp,h=>exact h
    | 7,hlj,hp,h=>obtain ⟨a,c,e,h⟩:=h;exact ⟨a,c,e,row_later h hb⟩
    | 8,hlj,hp,h=>obtain ⟨b,a,c,e,h1,h2⟩:=h;exact ⟨b,a,c,e,h1.below hb,row_later h2 hb⟩
    | 9,hlj,hp,h=>obtain ⟨V,e,g9,h⟩:=h;exact ⟨V,e,g9,h.later hb⟩
    | 10,hlj,hp,h=>exact h
    | _+11,_,_,_=>trivial
   | 8,ho =>
    obtain rfl:=oj ho
    have h7:∃ (a7:Option Addr) (c7:Nat),xX 26 = .slice a7 m.length c7∧z.ownsRow wr.heap.size 78 2 (.slice a7 m.length c7) m.length (ppCs m):=hdep 7 (by kernel_rfl) _ _ rfl rfl
    obtain ⟨a7,c7,q7,r7⟩:=h7
    have hls:ℓ 10=false:=hup 12 10 (by kernel_rfl)
    have hPl:=fun (vv:Value) w' (hb:Below z.heap.size z w')=>jd_plain (i:=8) hj (ja_plain (i:=8) (x':=putX xX (some 27) vv) hj.1 (by decide) (by decide) hls hb) (by decide) rfl
    have hz:=hj.1.1 (hup 12 9 (by kernel_rfl))
    clear hdep ho hup
    dsimp only at hK ⊢
    simp only [q7] at hK ⊢
    refine wpOp_step rfl (fun K2 hK2=>?_)
    go_simp
    have hb:Below z.heap.size z (z.alloc (.cells #[.slice a7 m.length c7] 50)):=(Below.refl _ _).alloc (Nat.le_refl _) _
    refine hK2 _ _ (hK _ _ (hPl _ _ hb) ?_ ⟨z.heap.size,a7,c7,rfl,Blk.new z _ _,row_later r7 hb⟩)
    intro jj v' hlj hp h
    match jj,hlj,hp,h with
    | 0,hlj,hp,h=>exact h
    | 1,hlj,hp,h=>exact h
    | 2,hlj,hp,h=>exact h
    | 3,hlj,hp,h=>exact h
    | 4,hlj,hp,h=>exact h
    | 5,hlj,hp,h=>exact h
    | 6,hlj,hp,h=>exact h
    | 7,hlj,hp,h=>obtain ⟨a,c,e,h⟩:=h;exact ⟨a,c,e,row_later h hb⟩
    | 8,hlj,hp,h=>obtain ⟨b,a,c,e,h1,h2⟩:=h;exact ⟨b,a,c,e,h1.below hb,row_later h2 hb⟩
    | 9,hlj,hp,h=>obtain ⟨V,e,g9,h⟩:=h;exact ⟨V,e,g9,h.later hb⟩
    | 10,hlj,hp,h=>exact h
    | _+11,_,_,_=>trivial
   | 9,ho =>
    obtain rfl:=oj ho
    have q0:xX 19 = .slice ha D.length hac:=hdep 0 (by kernel_rfl) _ _ rfl rfl
    have h8:∃ (b8:Nat) (a8:Option Addr) (c8:Nat),xX 27 = .slice (some ⟨b8,0,none⟩) 1 1∧Blk z b8 50 #[.slice a8 m.length c8]∧z.ownsRow wr.heap.size 78 2 (.slice a8 m.length c8) m.length (ppCs m):=hdep 8 (by kernel_rfl) _ _ rfl rfl
    obtain ⟨b8,a8,c8,q8,k8,r8⟩:=h8
    have hz:=hj.1.1 hli
    have hls:ℓ 10=false:=hup 12 10 (by kernel_rfl)
    clear hdep ho hup
    dsimp only at hK ⊢
    simp only [q0,q8] at hK ⊢
    refine wpOp_step rfl (fun K2 hK2=>?_)
    have hlw:=hW.out.later hz
    obtain ⟨V9,z1,hr,ho,hg⟩:=append_pl z w.heap.size (.slice ha D.length hac) D.length _ hlw.row k8 (slice_one' r8) (by have:=HDL.out;omega) hlw.b.size
    refine step_appendK rfl _ _ 153 153 rfl (.slice ha D.length hac) (.slice (some ⟨b8,0,none⟩) 1 1) (by simp [Act.eval]) (by simp [Act.eval]) hr ?_
    refine hK2 _ _ (hK _ _ (jd_plain (i:=9) hj (ja_mid (by decide) hls) (by decide) rfl) ?_ ⟨V9,rfl,_,hlw.pushG (row_base r8 hW.out.b.size) hg ho⟩)
    intro jj v' hlj hp h
    match jj,hlj,hp,h with
    | 0,hlj,hp,h=>exact h
    | 1,hlj,hp,h=>exact h
    | 2,hlj,hp,h=>exact h
    | 3,hlj,hp,h=>exact h
    | 4,hlj,hp,h=>exact h
    | 5,hlj,hp,h=>exact h
    | 6,hlj,hp,h=>exact h
    | 7,hlj,hp,h=>exact absurd hp (onlyN_spec (i:=9) (j:=7) (by kernel_rfl) hdl)
    | 8,hlj,hp,h=>exact absurd hp (onlyN_spec (i:=9) (j:=8) (by kernel_rfl) hdl)
    | 9,hlj,hp,h=>rw [hli] at hlj;cases hlj
    | 10,hlj,hp,h=>exact h
    | _+11,_,_,_=>trivial
   | 10,ho =>
    obtain rfl:=oj ho
    have h9:∃ V9,xX 28=V9∧∃ g9,LfW w v1 v2 v3 v4 (.slice ka H.ks.length kc) (.slice sa H.ss.length sc) (.slice ca H.cs.length cc) (D++[m]) [] g9 V9 (.slice none 0 0) z:=hdep 9 (by kernel_rfl) _ _ rfl rfl
    obtain ⟨V9,q9,g9,r9⟩:=h9
    clear hdep ho hup
    dsimp only at hK ⊢
    simp only [q9] at hK ⊢
    refine wpOp_step rfl (fun K2 hK2=>?_)
    go_simp
    exact hK2 _ _ (hK _ _ (jd_last (ja_last (.inr (hdl 1 9 (by kernel_rfl))) ⟨_,rfl,g9,r9⟩)) (fun _ _ _ hp _=>absurd hp (lastN_spec (by kernel_rfl) (by kernel_rfl) hdl)) trivial)
   | n+11,ho=>exact absurd (Array.getElem?_eq_some_iff.1 ho).1 (by simp)
  case done =>
   intro ℓ xX z hall hj
   have hf:=hj.1.2 (hall 10 (of_decide_eq_true (by kernel_rfl)))
   obtain ⟨V9,q10,g9,r9⟩:=hf
   have HW2:=hid r9
   have hdn:(D++[m]).length=k+1:=by rw [List.length_append,List.length_singleton,HDL.out]
   dsimp only
   simp only [q10]
   clear hj hall q10 r9 hW
   go_wp2
   go_roundw
   case rel=>exact ⟨k+1,D++[m],g9,by omega,by go_num,hdn,HDN,HW2⟩
   case measure=>simp [intOf];omega
 ·have hk2:¬ (k:Int)<(M.length:Int):=by omega
  have hke:k=M.length:=by omega
  have hDe:D=C:=by rw [hD.out,hke,← HCL.out,List.take_length]
  subst hDe
  clear hke hDl hk hD hkl HHE
  have HM0:Hid (0=mosN D 0):=hid rfl
  obtain ⟨ha,hac,rfl⟩:=own_form hW.out.row
  have hcl:=HCL.out
  have hdl:D.length≤1000000:=by omega
  obtain ⟨n,hn⟩:∃ n,M.length=n:=⟨_,rfl⟩
  rw [hn] at hk2 hMl ⊢
  have hdn:D.length=n:=hcl.trans hn
  clear hn hcl HCL
  subst hdn
  go_wp2
  go_loopw [7,10] (fun x y wi=>∃ (a i:Nat),i≤D.length∧x = .int .i64 a∧y = .int .i64 i∧Hid (a=mosN D i)∧Hid (LfW w v1 v2 v3 v4 (.slice ka H.ks.length kc) (.slice sa H.ss.length sc) (.slice ca H.cs.length cc) D [] gh (.slice ha D.length hac) (.slice none 0 0) wi)) (fun _ y _=>D.length-(intOf y).toNat)
  case atStart=>exact ⟨0,0,Nat.zero_le _,rfl,rfl,HM0,hW⟩
  clear HM0 hW
  obtain ⟨a,i,hi,rfl,rfl,ha',hV⟩:=hrel
  by_cases hil:i<D.length
  ·have i1:(i:Int)<(D.length:Int):=by omega
   have i0:(0:Int)≤(i:Int):=by omega
   have hal:=mosN_le (C:=D) i
   rw [← ha'.out] at hal
   have HMS:=hid (mosN_step hil)
   rw [← ha'.out] at HMS
   have HXL:=hid (HCX.out _ (List.getElem_mem hil))
   have HXA:=hid (fun (z:World) (h:LfW w v1 v2 v3 v4 (.slice ka H.ks.length kc) (.slice sa H.ss.length sc) (.slice ca H.cs.length cc) D [] gh (.slice ha D.length hac) (.slice none 0 0) z)=>ARd.of_pps (h.cs i hil))
   obtain ⟨x,hx⟩:∃ x,D[i]=x:=⟨_,rfl⟩
   rw [hx] at HMS HXL HXA
   have HN0:Hid (0=cntX D x 0):=hid rfl
   clear hx ha'
   go_wp2
   go_loopw [11,12] (fun u y wi=>∃ (n j:Nat),j≤D.length∧u = .int .i64 n∧y = .int .i64 j∧Hid (n=cntX D x j)∧Hid (LfW w v1 v2 v3 v4 (.slice ka H.ks.length kc) (.slice sa H.ss.length sc) (.slice ca H.cs.length cc) D [] gh (.slice ha D.length hac) (.slice none 0 0) wi)) (fun _ y _=>D.length-(intOf y).toNat)
   case atStart=>exact ⟨0,0,Nat.zero_le _,rfl,rfl,HN0,hV⟩
   clear HN0 hV
   obtain ⟨n,j,hj,rfl,rfl,hn,hV⟩:=hrel
   by_cases hjl:j<D.length
   ·have j1:(j:Int)<(D.length:Int):=by omega
    have j0:(0:Int)≤(j:Int):=by omega
    have hnl:=cntX_le (C:=D) (x:=x) (j:=j)
    rw [← hn.out] at hnl
    have HCS:=hid (cntX_step (x:=x) hjl)
    rw [← hn.out] at HCS
    obtain ⟨b,o,c',ev,_,p0⟩:=row_at hV.out.row hil
    cases ev
    obtain ⟨_,_,_,ev,_,p1⟩:=row_at hV.out.row hjl
    cases ev
    obtain ⟨xa,xc,ex⟩:=own_form (hV.out.cs i hil)
    obtain ⟨ya,yc,ey⟩:=own_form (hV.out.cs j hjl)
    rw [ex] at p0
    rw [ey] at p1
    have HSM:=hid (fun (z:World) (h:LfW w v1 v2 v3 v4 (.slice ka H.ks.length kc) (.slice sa H.ss.length sc) (.slice ca H.cs.length cc) D [] gh (.slice (some ⟨b,o,none⟩) D.length hac) (.slice none 0 0) z)=>samep_any x D[j] (.slice xa D[i].length xc) (.slice ya D[j].length yc) z (by rw [← ex];exact HXA.out _ h) (by rw [← ey];exact ARd.of_pps (h.cs j hjl)) HXL.out)
    obtain ⟨y,hy⟩:∃ y,D[j]=y:=⟨_,rfl⟩
    rw [hy] at HCS HSM p1
    obtain ⟨xl,hxl⟩:∃ n,D[i].length=n:=⟨_,rfl⟩
    rw [hxl] at HSM p0
    obtain ⟨yl,hyl⟩:∃ n,y.length=n:=⟨_,rfl⟩
    rw [hyl] at HSM p1
    obtain ⟨bb,hbb⟩:∃ bb,decide (x=y)=bb:=⟨_,rfl⟩
    rw [hbb] at HSM
    have HBB:=hid hbb
    clear ex ey hy hxl hyl hbb hn
    go_upto_region 14 with fail
    have hdr:=hc2 (w:=w) ⟨hV.out.b,p0,p1⟩ ((Below.refl _ wr).drew)
    have HVD:=hid (hV.out.later ((Below.refl wr.heap.size wr).drew))
    have HSM2:=hid (HSM.out _ HVD.out)
    clear p0 p1 hV
    go_region_held3 (fun w'=>Below w.heap.size w w'∧w'.cell? ⟨b,o+i,none⟩=some (.slice xa xl xc)∧w'.cell? ⟨b,o+j,none⟩=some (.slice ya yl yc)) (first | exact hdr | assumption | fail) (first | (go_at_call 21;(with_reducible refine HSM2.out.mono ?_);rintro e w3 ⟨rfl,hb3⟩;have hn3:=hc2 hdr hb3;have HV3:=hid (HVD.out.later hb3)) | fail)
    clear hdr hn3 HVD HSM HSM2
    cases bb with
    | true =>
     have hxy:x=y:=of_decide_eq_true HBB.out
     have n6:IntKind.i64.wrap ((n:Int)+1)=(n:Int)+1:=IntWalk.i64_in _ (by omega)
     have HN2:=hid (show n+1=cntX D x (j+1) from by rw [HCS.out,if_pos hxy])
     clear hxy HCS HBB
     go_wp2
     go_roundw
     case rel=>exact ⟨n+1,j+1,by omega,by go_num,by go_num,HN2,HV3⟩
     case measure=>simp [intOf];omega
    | false =>
     have hxy:¬ x=y:=of_decide_eq_false HBB.out
     have HN2:=hid (show n=cntX D x (j+1) from by rw [HCS.out,if_neg hxy,Nat.add_zero])
     clear hxy HCS HBB
     go_wp2
     go_roundw
     case rel=>exact ⟨n,j+1,by omega,rfl,by go_num,HN2,HV3⟩
     case measure=>simp [intOf];omega
   ·have j1:¬ (j:Int)<(D.length:Int):=by omega
    have hje:j=D.length:=by omega
    have HA2:=hid (show max a n=mosN D (i+1) from by rw [HMS.out,hn.out,hje])
    clear hje hn HMS
    go_wp2
    go_roundw
    case rel=>exact ⟨max a n,i+1,by omega,by congr 1;omega,by go_num,HA2,hV⟩
    case measure=>simp [intOf];omega
  ·have i1:¬ (i:Int)<(D.length:Int):=by omega
   have hie:i=D.length:=by omega
   have HE:=hid (show (leftN S B M (onH H):Int)=(a:Int) from by rw [← HME.out,ha'.out,hie])
   have HBE:=hid hV.out.b
   clear hie ha' hV
   go_wp2
   go_ret
   exact numR HE.out HBE.out
def nx0 (S:Sp) (L:List Tl) (Hs:List Hn):Int:=if trlE S L≠0 then trlE S L else if 20<Hs.length then 3 else 0
theorem nx0_trl {S:Sp} {L:List Tl} {Hs:List Hn} (h:trlE S L≠0):nx0 S L Hs=trlE S L:=if_pos h
theorem nx0_long {S:Sp} {L:List Tl} {Hs:List Hn} (h:trlE S L=0) (h2:20<Hs.length):nx0 S L Hs=3:=by unfold nx0;rw [if_neg (by omega),if_pos h2]
theorem nx0_in {S:Sp} {L:List Tl} {Hs:List Hn} (h:trlE S L=0) (h2:¬ 20<Hs.length):nx0 S L Hs=0:=by unfold nx0;rw [if_neg (by omega),if_neg h2]
theorem nx0_E {S:Sp} {L:List Tl} {Hs:List Hn} {n:Int} (h:nx0 S L Hs=n) (hn:n≠0):nxE S L Hs=n:=by
 unfold nx0 at h
 unfold nxE
 by_cases a:trlE S L≠0
 ·rw [if_pos a] at h ⊢;exact h
 ·rw [if_neg a] at h ⊢
  by_cases b:20<Hs.length
  ·rw [if_pos b] at h ⊢;exact h
  ·rw [if_neg b] at h;exact absurd h.symm hn
theorem nx0_ok {S:Sp} {L:List Tl} {Hs:List Hn} (h:nx0 S L Hs=0):trlE S L=0∧¬ 20<Hs.length:=by
 unfold nx0 at h
 by_cases a:trlE S L≠0
 ·rw [if_pos a] at h;exact absurd h a
 ·rw [if_neg a] at h
  by_cases b:20<Hs.length
  ·rw [if_pos b] at h;cases h
  ·exact ⟨by omega,b⟩
def nxH (S:Sp) (L:List Tl) (Hs:List Hn) (i:Nat):Int:=if nx0 S L Hs≠0 then nx0 S L Hs else firstErr (nxF S Hs) i
theorem nxH_zero {S:Sp} {L:List Tl} {Hs:List Hn}:nxH S L Hs 0=nx0 S L Hs:=by
 unfold nxH
 by_cases a:nx0 S L Hs≠0
 ·rw [if_pos a]
 ·rw [if_neg a]
  have h:nx0 S L Hs=0:=by omega
  rw [h];rfl
theorem nxH_ok {S:Sp} {L:List Tl} {Hs:List Hn} {i:Nat} (h:nxH S L Hs i=0):nx0 S L Hs=0∧firstErr (nxF S Hs) i=0:=by
 unfold nxH at h
 by_cases a:nx0 S L Hs≠0
 ·rw [if_pos a] at h;exact absurd h a
 ·rw [if_neg a] at h;exact ⟨by omega,h⟩
theorem nxH_next {S:Sp} {L:List Tl} {Hs:List Hn} {i:Nat} (h:nxH S L Hs i=0) (hi:i<Hs.length):nxH S L Hs (i+1)=hnE S Hs[i]:=by
 obtain ⟨h1,h2⟩:=nxH_ok h
 unfold nxH
 rw [if_neg (by omega),firstErr_next h2,nxF_at hi]
theorem nxH_E {S:Sp} {L:List Tl} {Hs:List Hn} {i:Nat} {n:Int} (h:nxH S L Hs i=n) (hn:n≠0) (hi:i≤Hs.length):nxE S L Hs=n:=by
 by_cases a:nx0 S L Hs=0
 ·obtain ⟨h1,h2⟩:=nx0_ok a
  unfold nxH at h
  rw [if_neg (by omega)] at h
  exact nx_hand h1 h2 (by rw [firstErr_at (k:=i) (by rw [h];exact hn) hi,h]) hn
 ·refine nx0_E ?_ hn
  unfold nxH at h
  rwa [if_pos a] at h
theorem rnext_any (v1 v2 v3 v4:Value) (S:Sp) (ok:SpWk S) (fp:Nat→Value) (L:List Tl) (hsm:∀ t∈L,HnSm t.h∧t.l.length≤1000000) (hll:L.length≤1000000) (tv:Value) (gk gs gc gh:Nat→Value) (Hs:List Hn) (hhs:∀ h∈Hs,HnSm h) (hhl:Hs.length≤1000000) (hv:Value) (hk hss hcc:Nat→Value) (B:(Th→Int)→Pp→Bool) (hB:(checkP S).2=0→SndIs S B) (most:Int) (hfew:lsE S L most=0→(allFt S).length≤20) (w:World) (hsp:SpRd w v1 v2 v3 v4 fp S) (htv:TlRd w tv L gk gs gc gh) (hhv:HnsRd w hv Hs hk hss hcc) :
  Calls Tryz.prog 25 #[.agg #[v1,v2,v3,v4],tv,.int .i64 most,hv] w (NxR S B L most Hs w):=by
 obtain ⟨at',ct,ev⟩:=htv.form
 subst ev
 obtain ⟨ah,ch,ev⟩:=hhv.form
 subst ev
 have HB0:=hid (show Below w.heap.size w (w.alloc (.cells #[v1,v2,v3,v4] 27)) from (Below.refl _ _).alloc (Nat.le_refl _) _)
 have K0:=hid (Blk.new w 27 #[v1,v2,v3,v4])
 have HCS:=hid (fun (W:World) (hb:Below w.heap.size w W)=>check30_any v1 v2 v3 v4 S ok fp L hsm (.slice at' L.length ct) gk gs gc gh W (hsp.later hb) (htv.later hb) hll)
 have HHA:=hid (fun (i:Nat) (hi:i<Hs.length) (W:World) (hb:Below w.heap.size w W)=>check12_any v1 v2 v3 v4 S ok fp (hk i) (hss i) (hcc i) Hs[i] (hhs _ (List.getElem_mem hi)) W (hsp.later hb) ((hhv.later hb).hd i hi))
 have HLE:=hid (fun (W:World) (hb:Below w.heap.size w W)=>rleast_any v1 v2 v3 v4 S ok fp L hsm hll (.slice at' L.length ct) gk gs gc gh B hB most hfew W (hsp.later hb) (htv.later hb))
 have HLF:=hid (fun (hc:(checkP S).2=0) (hh:firstErr (nxF S Hs) Hs.length=0) (M:List (List Ft)) (hM:(∀ F∈M,FtsOk S F∧F.length≤10)∧M≠[]∧M.length≤200) (i:Nat) (hi:i<Hs.length) (lv:Value) (g:Nat→Value) (W:World) (hb:Below w.heap.size w W) (hlv:StsRd W lv M g)=>left30_any v1 v2 v3 v4 S ok hc fp (hk i) (hss i) (hcc i) Hs[i] (hands_ok hc hh i hi) M hM.1 (by have:=hM.2.2;omega) lv g B (hB hc) W (hsp.later hb) ((hhv.later hb).hd i hi) hlv)
 have HHV:=hid hhv
 obtain ⟨s0,s1,s2,s3⟩:=K0.out.four
 clear ok hsp hB htv hsm hhs hhv hfew
 go_enter Tryz.func25,Tryz.ntmps25
 go_upto_region 1 with fail
 generalize w.alloc (.cells #[v1,v2,v3,v4] 27)=W0 at *
 go_wp2_with fail
 refine (HCS.out _ HB0.out).mono ?_
 rintro e W1 ⟨rfl,hb1⟩
 have HB1:=hid (below_step HB0.out hb1)
 replace K0:=hid (K0.out.below hb1)
 clear hb1 s0 s1 s2 s3 HB0 HCS
 obtain ⟨n,hn⟩:∃ n,trlE S L=n:=⟨_,rfl⟩
 rw [hn]
 go_upto_region 2 with fail
 go_cut [27] from 21 to 27 (fun x wx=>∃ bb:Bool,x = .bool bb∧Hid (nx0 S L Hs=if bb then 3 else n)∧Hid (Below w.heap.size w wx)∧Hid (Blk wx w.heap.size 27 #[v1,v2,v3,v4]))
 case first =>
  by_cases hz:n=0
  case neg =>
   have q1:(n==0)=false:=by simpa using hz
   have HE:=hid (show nx0 S L Hs=n from (nx0_trl (by rw [hn];exact hz)).trans hn)
   clear hz hn
   go_wp2
   go_meet
   exact ⟨false,rfl,HE,HB1,K0⟩
  subst hz
  by_cases h20:20<Hs.length
  ·have d1:decide ((20:Int)<(Hs.length:Int))=true:=decide_eq_true (by omega)
   have d2:decide (20<Hs.length)=true:=decide_eq_true h20
   have HE:=hid (nx0_long (S:=S) (L:=L) hn h20)
   clear h20 hn
   go_wp2
   go_meet
   exact ⟨true,rfl,HE,HB1,K0⟩
  have d1:decide ((20:Int)<(Hs.length:Int))=false:=decide_eq_false (by omega)
  have d2:decide (20<Hs.length)=false:=decide_eq_false h20
  have HE:=hid (nx0_in (S:=S) (L:=L) hn h20)
  clear h20 hn
  go_wp2
  go_meet
  exact ⟨false,rfl,HE,HB1,K0⟩
 case rest =>
 obtain ⟨bb,rfl,HE,HB9,HK9⟩:=hcut
 clear HB1 K0 hn
 rename World=>W9
 go_upto_if 27 with fail
 go_cut [11] from 27 to 27 (fun x wx=>x = .int .i64 (nx0 S L Hs)∧Hid (Below w.heap.size w wx)∧Hid (Blk wx w.heap.size 27 #[v1,v2,v3,v4]))
 case first =>
  cases bb with
  | true =>
   go_wp2
   go_meet
   exact ⟨by rw [HE.out];rfl,HB9,HK9⟩
  | false =>
   go_wp2
   go_meet
   exact ⟨by rw [HE.out];rfl,HB9,HK9⟩
 case rest =>
 obtain ⟨rfl,HB2,HK2⟩:=hcut
 clear HB9 HK9 HE
 rename World=>W2
 obtain ⟨n0,hn0⟩:∃ n,nx0 S L Hs=n:=⟨_,rfl⟩
 rw [hn0]
 have HF0:=hid (show nxH S L Hs 0=n0 from nxH_zero.trans hn0)
 clear hn0
 go_wp2
 go_loopw [11,12] (fun y x wr=>∃ (n:Int) (i:Nat),i≤Hs.length∧y = .int .i64 n∧x = .int .i64 i∧Hid (nxH S L Hs i=n)∧Hid (Below w.heap.size w wr)∧Hid (Blk wr w.heap.size 27 #[v1,v2,v3,v4])) (fun _ x _=>Hs.length-(intOf x).toNat)
 case atStart=>exact ⟨n0,0,Nat.zero_le _,rfl,rfl,HF0,HB2,HK2⟩
 clear HF0 HB2 HK2
 obtain ⟨n,i,hi,rfl,rfl,hF,hB,hK⟩:=hrel
 by_cases hz:n=0
 case neg =>
  have q1:(n==0)=false:=by simpa using hz
  have q2:(n != 0)=true:=by simpa using hz
  have HE:=hid (nxP_bad (B:=B) (most:=most) (nxH_E hF.out hz hi) hz)
  clear hz hF
  by_cases hil:i<Hs.length
  ·have hi2:(i:Int)<(Hs.length:Int):=by omega
   go_wp2
   go_ret3
   exact ⟨_,_,_,rfl,HE.out,hB.out⟩
  ·have hi2:¬ (i:Int)<(Hs.length:Int):=by omega
   go_wp2
   go_ret3
   exact ⟨_,_,_,rfl,HE.out,hB.out⟩
 subst hz
 by_cases hil:i<Hs.length
 ·have hi2:(i:Int)<(Hs.length:Int):=by omega
  have hi0:(0:Int)≤(i:Int):=by omega
  obtain ⟨b,o,c',ev,_,q0,q1,q2⟩:=(HHV.out.later hB.out).at' hil
  cases ev
  obtain ⟨⟨ka,kc,ek⟩,⟨sa,sc,es⟩,⟨ca,cc,ec⟩⟩:=((HHV.out.later hB.out).hd i hil).forms
  have HCI:=hid (HHA.out i hil)
  have HNX:=hid (nxH_next hF.out hil)
  rw [ek] at q0 HCI
  rw [es] at q1 HCI
  rw [ec] at q2 HCI
  obtain ⟨x,hx⟩:∃ x,Hs[i]=x:=⟨_,rfl⟩
  rw [hx] at q0 q1 q2 HCI HNX
  obtain ⟨s0,s1,s2,s3⟩:=hK.out.four
  have hdr:=hc7 (w:=w) ⟨hB.out,s0,s1,s2,s3,q0,q1,q2⟩ ((Below.refl _ wr).drew)
  have HKD:=hid (hK.out.below ((Below.refl wr.heap.size wr).drew))
  clear hx ek es ec hB hK q0 q1 q2 s0 s1 s2 s3 hF
  go_upto_region 7 with fail
  go_region_held3 (fun w'=>Below w.heap.size w w'∧w'.cell? ⟨w.heap.size,0,none⟩=some v1∧w'.cell? ⟨w.heap.size,1,none⟩=some v2∧w'.cell? ⟨w.heap.size,2,none⟩=some v3∧w'.cell? ⟨w.heap.size,3,none⟩=some v4∧w'.cell? ⟨b,o+i * 3,none⟩=some (.slice ka x.ks.length kc)∧w'.cell? ⟨b,o+i * 3+1,none⟩=some (.slice sa x.ss.length sc)∧w'.cell? ⟨b,o+i * 3+2,none⟩=some (.slice ca x.cs.length cc)) (first | exact hdr | assumption | fail) (first | (go_at_call 33;(with_reducible refine (HCI.out _ hdr.1).mono ?_);rintro e w3 ⟨rfl,hb3⟩;have hn3:=hc7 hdr hb3;have HB3:=hid hn3.1;have HK3:=hid (HKD.out.below hb3)) | fail)
  clear hdr hn3 HKD HCI hb3
  obtain ⟨n,hn⟩:∃ n,hnE S x=n:=⟨_,rfl⟩
  rw [hn] at HNX ⊢
  clear hn
  go_wp2
  go_roundw
  case rel=>exact ⟨n,i+1,by omega,rfl,by go_num,HNX,HB3,HK3⟩
  case measure=>simp [intOf];omega
 have hi2:¬ (i:Int)<(Hs.length:Int):=by omega
 have hie:i=Hs.length:=by omega
 subst hie
 have HOK:=hid (nxH_ok hF.out)
 have HO2:=hid (nx0_ok HOK.out.1)
 clear hF
 by_cases h0:Hs.length=0
 ·have f1:((Hs.length:Int)==0)=true:=by rw [beq_iff_eq];omega
  have f2:(Hs.length==0)=true:=by rw [beq_iff_eq];exact h0
  have HE:=hid (nxP_bad (B:=B) (most:=most) (nx_none HO2.out.1 HOK.out.2 h0) (by decide))
  clear h0
  go_wp2
  go_ret3
  exact ⟨_,_,_,rfl,HE.out,hB.out⟩
 have f1:((Hs.length:Int)==0)=false:=by rw [beq_eq_false_iff_ne];omega
 have f2:(Hs.length==0)=false:=by rw [beq_eq_false_iff_ne];exact h0
 have HNE:=hid (nx_in HO2.out.1 HO2.out.2 HOK.out.2 h0)
 have HH0:=hid h0
 have hl0:0<Hs.length:=by omega
 have hl1:(0:Int)<(Hs.length:Int):=by omega
 obtain ⟨s0,s1,s2,s3⟩:=hK.out.four
 clear h0
 go_wp2_with fail
 refine (HLE.out wr hB.out).mono ?_
 rintro e W4 ⟨lv,M,g,n,rfl,hM,hst,hb4⟩
 have HST:=hid hst.rd
 have HMM:=hid hM
 have HB4:=hid (below_step hB.out hb4)
 have HK4:=hid (hK.out.below hb4)
 obtain ⟨la,lc,rfl⟩:=own_form hst.row
 clear hst hM hb4 hB hK s0 s1 s2 s3 f1 f2 HLE
 by_cases hz:n=0
 case neg =>
  have f1:(n==0)=false:=by simpa using hz
  have f2:(n != 0)=true:=by simpa using hz
  have HE:=hid (nxP_err HNE.out HMM.out hz)
  clear hz
  go_wp2
  go_ret3
  exact ⟨_,_,_,rfl,HE.out,HB4.out⟩
 subst hz
 have HLS:=hid (lsP_ok HMM.out)
 have HRES:=hid (nxP_best HNE.out HH0.out HMM.out)
 have HLG:=hid (HLF.out (trlE_ok HO2.out.1).1 HOK.out.2 M ⟨HLS.out.1,HLS.out.2.1,HLS.out.2.2.1⟩)
 obtain ⟨v,hvv⟩:∃ v,lfV S B M Hs=v:=⟨_,rfl⟩
 have HVA:=hid (fun (i:Nat) (hi:i<Hs.length)=>show leftN S B M (onH Hs[i])=v i from by rw [← hvv,lfV_at hi])
 rw [hvv] at HRES
 have HBN:=hid (fun (i:Nat)=>bst_next v i)
 clear hvv HLF HLS HMM
 obtain ⟨b,o,c',ev,_,q0,q1,q2⟩:=(HHV.out.later HB4.out).at' hl0
 cases ev
 rw [Nat.zero_mul,Nat.add_zero] at q0 q1 q2
 obtain ⟨⟨ka,kc,ek⟩,⟨sa,sc,es⟩,⟨ca,cc,ec⟩⟩:=((HHV.out.later HB4.out).hd 0 hl0).forms
 have HCI:=hid (HLG.out 0 hl0 (.slice la M.length lc) g)
 rw [HVA.out 0 hl0] at HCI
 rw [ek] at q0 HCI
 rw [es] at q1 HCI
 rw [ec] at q2 HCI
 obtain ⟨x,hx⟩:∃ x,Hs[0]=x:=⟨_,rfl⟩
 rw [hx] at q0 q1 q2 HCI
 obtain ⟨s0,s1,s2,s3⟩:=HK4.out.four
 have hdr:=hc7 (w:=w) ⟨HB4.out,s0,s1,s2,s3,q0,q1,q2⟩ ((Below.refl _ W4).drew)
 have hbd:Below W4.heap.size W4 W4.drew:=(Below.refl _ _).drew
 have HKD:=hid (HK4.out.below hbd)
 have HCJ:=hid (HCI.out _ hdr.1 (HST.out.later hbd))
 clear hx ek es ec HB4 HK4 q0 q1 q2 s0 s1 s2 s3 HCI hbd
 go_upto_region 15 with fail
 go_region_held3 (fun w'=>Below w.heap.size w w'∧w'.cell? ⟨w.heap.size,0,none⟩=some v1∧w'.cell? ⟨w.heap.size,1,none⟩=some v2∧w'.cell? ⟨w.heap.size,2,none⟩=some v3∧w'.cell? ⟨w.heap.size,3,none⟩=some v4∧w'.cell? ⟨b,o,none⟩=some (.slice ka x.ks.length kc)∧w'.cell? ⟨b,o+1,none⟩=some (.slice sa x.ss.length sc)∧w'.cell? ⟨b,o+2,none⟩=some (.slice ca x.cs.length cc)) (first | exact hdr | assumption | fail) (first | (go_at_call 58;(with_reducible refine HCJ.out.mono ?_);rintro e w5 ⟨rfl,hb5⟩;have hn5:=hc7 hdr hb5;have HB5:=hid hn5.1;have HG5:=hid (below_step ((Below.refl W4.heap.size W4).drew) hb5);have HK5:=hid (HKD.out.below hb5)) | fail)
 clear hdr hn5 HKD HCJ hb5
 obtain ⟨m0,hm0⟩:∃ m,v 0=m:=⟨_,rfl⟩
 have HB0:=hid (show bst v 1=(0,m0) from by rw [HBN.out 0,if_pos (.inl rfl),hm0])
 rw [hm0]
 clear hm0
 go_wp2
 go_loopw [14,15,16] (fun p q x wr=>∃ (i:Nat),1≤i∧i≤Hs.length∧x = .int .i64 i∧p = .int .i64 (bst v i).1∧q = .int .i64 (bst v i).2∧Hid (Below w.heap.size w wr)∧Hid (Below W4.heap.size W4 wr)∧Hid (Blk wr w.heap.size 27 #[v1,v2,v3,v4])) (fun _ _ x _=>Hs.length-(intOf x).toNat)
 case atStart=>exact ⟨1,Nat.le_refl _,hl0,rfl,by rw [HB0.out];rfl,by rw [HB0.out],HB5,HG5,HK5⟩
 clear HB0 HB5 HG5 HK5
 obtain ⟨i,hi1,hi,rfl,rfl,rfl,hB,hG,hK⟩:=hrel
 by_cases hil:i<Hs.length
 ·have hi2:(i:Int)<(Hs.length:Int):=by omega
  have hi0:(0:Int)≤(i:Int):=by omega
  obtain ⟨_,_,_,ev,_,q0,q1,q2⟩:=(HHV.out.later hB.out).at' hil
  cases ev
  obtain ⟨⟨ka,kc,ek⟩,⟨sa,sc,es⟩,⟨ca,cc,ec⟩⟩:=((HHV.out.later hB.out).hd i hil).forms
  have HCI:=hid (HLG.out i hil (.slice la M.length lc) g)
  rw [HVA.out i hil] at HCI
  have HBI:=hid (HBN.out i)
  rw [ek] at q0 HCI
  rw [es] at q1 HCI
  rw [ec] at q2 HCI
  obtain ⟨x,hx⟩:∃ x,Hs[i]=x:=⟨_,rfl⟩
  rw [hx] at q0 q1 q2 HCI
  obtain ⟨b1,hb1⟩:∃ b1:Nat,(bst v i).1=b1:=⟨_,rfl⟩
  obtain ⟨b2,hb2⟩:∃ b2:Nat,(bst v i).2=b2:=⟨_,rfl⟩
  have HBB:=hid (show bst v i=(b1,b2) from Prod.ext hb1 hb2)
  rw [HBB.out] at HBI
  rw [hb1,hb2]
  obtain ⟨n,hn⟩:∃ n,v i=n:=⟨_,rfl⟩
  rw [hn] at HBI HCI
  obtain ⟨s0,s1,s2,s3⟩:=hK.out.four
  have hdr:=hc7 (w:=w) ⟨hB.out,s0,s1,s2,s3,q0,q1,q2⟩ ((Below.refl _ wr).drew)
  have hbd:Below wr.heap.size wr wr.drew:=(Below.refl _ _).drew
  have HGD:=hid (below_step hG.out hbd)
  have HKD:=hid (hK.out.below hbd)
  have HCJ:=hid (HCI.out _ hdr.1 (HST.out.later HGD.out))
  clear hx ek es ec hB hK hG hb1 hb2 hn q0 q1 q2 s0 s1 s2 s3 HCI hbd
  go_upto_region 19 with fail
  go_region_held3 (fun w'=>Below w.heap.size w w'∧w'.cell? ⟨w.heap.size,0,none⟩=some v1∧w'.cell? ⟨w.heap.size,1,none⟩=some v2∧w'.cell? ⟨w.heap.size,2,none⟩=some v3∧w'.cell? ⟨w.heap.size,3,none⟩=some v4∧w'.cell? ⟨b,o+i * 3,none⟩=some (.slice ka x.ks.length kc)∧w'.cell? ⟨b,o+i * 3+1,none⟩=some (.slice sa x.ss.length sc)∧w'.cell? ⟨b,o+i * 3+2,none⟩=some (.slice ca x.cs.length cc)) (first | exact hdr | assumption | fail) (first | (go_at_call 58;(with_reducible refine HCJ.out.mono ?_);rintro e w5 ⟨rfl,hb5⟩;have hn5:=hc7 hdr hb5;have HB5:=hid hn5.1;have HG5:=hid (below_step HGD.out hb5);have HK5:=hid (HKD.out.below hb5)) | fail)
  clear hdr hn5 HKD HGD HCJ hb5
  by_cases hlt:n<b2
  ·have d1:decide ((n:Int)<(b2:Int))=true:=decide_eq_true (by omega)
   have d2:decide (n<b2)=true:=decide_eq_true hlt
   have HE:=hid (HBI.out.trans (if_pos (.inr hlt)))
   clear hlt
   go_wp2
   go_roundw
   case rel=>exact ⟨i+1,by omega,by omega,by go_num,by rw [HE.out],by rw [HE.out],HB5,HG5,HK5⟩
   case measure=>simp [intOf];omega
  ·have d1:decide ((n:Int)<(b2:Int))=false:=decide_eq_false (by omega)
   have d2:decide (n<b2)=false:=decide_eq_false hlt
   have HE:=hid (HBI.out.trans (if_neg (fun h=>h.elim (by omega) hlt)))
   clear hlt
   go_wp2
   go_roundw
   case rel=>exact ⟨i+1,by omega,by omega,by go_num,by rw [HE.out],by rw [HE.out],HB5,HG5,HK5⟩
   case measure=>simp [intOf];omega
 ·have hi2:¬ (i:Int)<(Hs.length:Int):=by omega
  have hie:i=Hs.length:=by omega
  rw [← hie] at HRES
  clear hie hG hK
  go_wp2
  go_ret3
  exact ⟨_,_,_,rfl,HRES.out,hB.out⟩
theorem lsP_few {S:Sp} {B:(Th→Int)→Pp→Bool} {L:List Tl} {most:Int} {M:List (List Ft)} {e:Int} (h:LsP S B L most M e):M.length≤1000000∧∀ x∈M,x.length≤1000000:=by
 by_cases he:e=0
 ·subst he
  obtain ⟨h1,_,h2,_⟩:=lsP_ok h
  exact ⟨by omega,fun x hx=>by have:=(h1 x hx).2;omega⟩
 ·have hm:M=[]:=by
   rcases h with ⟨_,h2,_⟩ | ⟨_,h2⟩
   ·exact h2
   ·rcases h2 with ⟨k,_,_,M',_,_,⟨_,_,h3⟩ | ⟨_,h3,_⟩⟩ | ⟨_,h3,_⟩
    ·exact absurd h3 he
    ·exact h3
    ·exact h3
  subst hm
  exact ⟨Nat.zero_le _,fun x hx=>by cases hx⟩
theorem small30_any (v1 v2 v3 v4 fv vk vs vc tv hv:Value) (most:Int) (fp:Nat→Value) (S:Sp) (F:List Ft) (H:Hn) (L:List Tl) (Hs:List Hn) (gk gs gc gh hk hs hc:Nat→Value) (hck:(checkP S).2=0) (w:World) (c:CsM w v1 v2 v3 v4 fv vk vs vc tv hv fp S F H L Hs gk gs gc gh hk hs hc) :
  Calls Tryz.prog 22 #[.agg #[v1,v2,v3,v4,fv,vk,vs,vc,tv,.int .i64 most,hv]] w (fun e w'=>∃ sb:Bool,e = .returned (.bool sb)∧(sb=true→(allFt S).length≤20)∧Below w.heap.size w w'):=by
 obtain ⟨ta,tc,rfl⟩:=c.t.form
 obtain ⟨ha,hac,rfl⟩:=c.hs.form
 have HB0:=hid (show Below w.heap.size w (w.alloc (.cells #[v1,v2,v3,v4,fv,vk,vs,vc,.slice ta L.length tc,.int .i64 most,.slice ha Hs.length hac] 36)) from (Below.refl _ _).alloc (Nat.le_refl _) _)
 have K0:=hid (Blk.new w 36 #[v1,v2,v3,v4,fv,vk,vs,vc,.slice ta L.length tc,.int .i64 most,.slice ha Hs.length hac])
 have HA:=hid (fun (W:World) (hb:Below w.heap.size w W)=>all30_any v1 v2 v3 v4 S hck fp W (c.sp.later hb))
 clear c hck
 go_enter Tryz.func22,Tryz.ntmps22
 go_upto_region 1 with fail
 obtain ⟨P,hP⟩:∃ P,w.heap.size=P:=⟨_,rfl⟩
 generalize w.alloc (.cells #[v1,v2,v3,v4,fv,vk,vs,vc,.slice ta L.length tc,.int .i64 most,.slice ha Hs.length hac] 36)=W0 at *
 rw [hP] at K0 ⊢
 clear hP
 obtain ⟨e0,e1,e2,e3,e4,e5,e6,e7,e8,e9,e10⟩:=case_cells K0.out (Below.refl _ W0)
 go_wp2_with fail
 refine (HA.out _ HB0.out).mono ?_
 rintro e W1 ⟨u,rfl,hrow,hb1⟩
 obtain ⟨ua,uc,rfl⟩:=own_form hrow
 have HB1:=hid (below_step HB0.out hb1)
 have HZ:=hid hb1
 clear e0 e1 e2 e3 e4 e5 e6 e7 e8 e9 e10 hrow hb1 HA
 obtain ⟨e0,e1,e2,e3,e4,e5,e6,e7,e8,e9,e10⟩:=case_cells K0.out HZ.out
 obtain ⟨n,hn⟩:∃ n,(allFt S).length=n:=⟨_,rfl⟩
 rw [hn]
 have HN:=hid hn
 clear hn
 by_cases h1:n≤20
 case neg =>
  have d1:decide ((n:Int)≤20)=false:=decide_eq_false (by omega)
  have d2:decide (n≤20)=false:=decide_eq_false h1
  clear h1
  go_wp2
  go_ret
  exact ⟨false,rfl,(fun h=>by cases h),HB1.out⟩
 have HE:=hid (show (allFt S).length≤20 by rw [HN.out];exact h1)
 have d1:decide ((n:Int)≤20)=true:=decide_eq_true (by omega)
 have d2:decide (n≤20)=true:=decide_eq_true h1
 clear h1
 by_cases h2:L.length≤3
 case neg =>
  have d3:decide ((L.length:Int)≤3)=false:=decide_eq_false (by omega)
  have d4:decide (L.length≤3)=false:=decide_eq_false h2
  clear h2
  go_wp2
  go_ret
  exact ⟨false,rfl,(fun h=>by cases h),HB1.out⟩
 have d3:decide ((L.length:Int)≤3)=true:=decide_eq_true (by omega)
 have d4:decide (L.length≤3)=true:=decide_eq_true h2
 clear h2
 by_cases h3:Hs.length≤4
 case neg =>
  have d5:decide ((Hs.length:Int)≤4)=false:=decide_eq_false (by omega)
  have d6:decide (Hs.length≤4)=false:=decide_eq_false h3
  clear h3
  go_wp2
  go_ret
  exact ⟨false,rfl,(fun h=>by cases h),HB1.out⟩
 have d5:decide ((Hs.length:Int)≤4)=true:=decide_eq_true (by omega)
 have d6:decide (Hs.length≤4)=true:=decide_eq_true h3
 clear h3
 go_wp2
 go_ret
 exact ⟨true,rfl,fun _=>HE.out,HB1.out⟩
theorem diagnosisLeast_walk (v1 v2 v3 v4 fv vk vs vc tv hv:Value) (most:Int) (fp:Nat→Value) (S:Sp) (F:List Ft) (H:Hn) (L:List Tl) (Hs:List Hn) (gk gs gc gh hk hs hc:Nat→Value) (w:World) (t:Tabs w) (d:Deb w) (c:CsIn w v1 v2 v3 v4 fv vk vs vc tv hv fp S F H L Hs gk gs gc gh hk hs hc) :
  Calls Tryz.prog 5 #[.agg #[v1,v2,v3,v4,fv,vk,vs,vc,tv,.int .i64 most,hv]] w (BoolR true w):=by
 obtain ⟨_,_,⟨a3,c3,rfl⟩,⟨a4,c4,rfl⟩⟩:=c.m.sp.forms
 have HB0:=hid (show Below w.heap.size w (w.alloc (.cells #[v1,v2,.slice a3 S.ss.length c3,.slice a4 S.cs.length c4,fv,vk,vs,vc,tv,.int .i64 most,hv] 36)) from (Below.refl _ _).alloc (Nat.le_refl _) _)
 have K0:=hid (Blk.new w 36 #[v1,v2,.slice a3 S.ss.length c3,.slice a4 S.cs.length c4,fv,vk,vs,vc,tv,.int .i64 most,hv])
 have HT:=hid t
 have HD:=hid d
 have HC:=hid c
 have HM:=hid (c.m.later HB0.out)
 clear t d c
 go_enter Tryz.func5,Tryz.ntmps5
 go_upto_region 1 with fail
 obtain ⟨P,hP⟩:∃ P,w.heap.size=P:=⟨_,rfl⟩
 generalize w.alloc (.cells #[v1,v2,.slice a3 S.ss.length c3,.slice a4 S.cs.length c4,fv,vk,vs,vc,tv,.int .i64 most,hv] 36)=W0 at *
 rw [hP] at K0 ⊢
 clear hP
 have HSH:=hid (fun (W:World) (hz:Below W0.heap.size W0 W)=>shown30_any W (HD.out.below (below_step HB0.out hz)) (HT.out.below (below_step HB0.out hz)))
 obtain ⟨e0,e1,e2,e3,e4,e5,e6,e7,e8,e9,e10⟩:=case_cells K0.out (Below.refl _ W0)
 go_wp2_with fail
 refine (far30_any v1 v2 _ _ fv vk vs vc tv hv most fp S F H L Hs gk gs gc gh hk hs hc W0 HM.out HC.out.ll HC.out.lh).mono ?_
 rintro e W1 ⟨bf,rfl,hbf,HZ1⟩
 replace HZ1:=hid HZ1
 cases bf with
 | true =>
  clear hbf e0 e1 e2 e3 e4 e5 e6 e7 e8 e9 e10
  go_wp2_with fail
  refine (HSH.out _ HZ1.out).mono ?_
  rintro e W9 ⟨rfl,hb9⟩
  have HB9:=hid (below_step HB0.out (below_step HZ1.out hb9))
  clear hb9
  go_wp2
  go_ret
  exact ⟨rfl,HB9.out⟩
 | false =>
  have HF:=hid (hbf rfl)
  have HW:=hid (HC.out.wk HF.out)
  obtain ⟨B,hB⟩:=snd_some S
  have HSB:=hid (fun (_:(checkP S).2=0)=>hB)
  have HS:=hid HF.out.sm
  have HHM:=hid (show ∀ H∈Hs,HnSm H from fun H hH=>(HF.out.hs H hH).sm)
  have HHL:=hid (show Hs.length≤1000000 by have:=HF.out.hl;omega)
  have HLL:=hid (show L.length≤1000000 by have:=HF.out.ll;omega)
  clear hB hbf e0 e1 e2 e3 e4 e5 e6 e7 e8 e9 e10
  have HKr:=hid (fun (W:World) (hz:Below W0.heap.size W0 W)=>check30_any v1 v2 _ _ S HW.out fp L HS.out tv gk gs gc gh W (HM.out.later hz).sp (HM.out.later hz).t HLL.out)
  have HSM:=hid (fun (hck:(checkP S).2=0) (W:World) (hz:Below W0.heap.size W0 W)=>small30_any v1 v2 _ _ fv vk vs vc tv hv most fp S F H L Hs gk gs gc gh hk hs hc hck W (HM.out.later hz))
  have HLE:=hid (fun (W:World) (hz:Below W0.heap.size W0 W)=>leastD_any v1 v2 _ _ S HW.out fp L HS.out HLL.out tv gk gs gc gh B HSB.out most W (HD.out.below (below_step HB0.out hz)) (HT.out.below (below_step HB0.out hz)) (HM.out.later hz).sp HC.out.cap (HM.out.later hz).t)
  have HLr:=hid (fun (hf:lsE S L most=0→(allFt S).length≤20) (W:World) (hz:Below W0.heap.size W0 W)=>rleast_any v1 v2 _ _ S HW.out fp L HS.out HLL.out tv gk gs gc gh B HSB.out most hf W (HM.out.later hz).sp (HM.out.later hz).t)
  have HNX:=hid (fun (W:World) (hz:Below W0.heap.size W0 W)=>nextD_any v1 v2 _ _ S HW.out fp L HS.out HLL.out tv gk gs gc gh Hs HHM.out HHL.out hv hk hs hc B HSB.out most W (HD.out.below (below_step HB0.out hz)) (HT.out.below (below_step HB0.out hz)) (HM.out.later hz).sp HC.out.cap (HM.out.later hz).t (HM.out.later hz).hs)
  have HNr:=hid (fun (hf:lsE S L most=0→(allFt S).length≤20) (W:World) (hz:Below W0.heap.size W0 W)=>rnext_any v1 v2 _ _ S HW.out fp L HS.out HLL.out tv gk gs gc gh Hs HHM.out HHL.out hv hk hs hc B HSB.out most hf W (HM.out.later hz).sp (HM.out.later hz).t (HM.out.later hz).hs)
  clear HW HSB HF HC HM HT HD HS HHM HHL HLL
  go_upto_region 3 with fail
  go_cut [3] from 17 to 36 (fun x wx=>∃ rf:Bool,x = .bool rf∧Hid (rf=true→lsE S L most≠0)∧Hid (rf=false→trlE S L=0)∧Hid (Below W0.heap.size W0 wx))
  case first =>
   obtain ⟨e0,e1,e2,e3,e4,e5,e6,e7,e8,e9,e10⟩:=case_cells K0.out HZ1.out
   go_wp2_with fail
   refine (HKr.out _ HZ1.out).mono ?_
   rintro e W2 ⟨rfl,hb2⟩
   have HZ2:=hid (below_step HZ1.out hb2)
   clear hb2 HZ1 HKr e0 e1 e2 e3 e4 e5 e6 e7 e8 e9 e10
   obtain ⟨n,hn⟩:∃ n,trlE S L=n:=⟨_,rfl⟩
   rw [hn]
   have HN:=hid hn
   clear hn
   obtain ⟨_,_,e2,e3,_,_,_,_,_,_,_⟩:=case_cells K0.out HZ2.out
   by_cases hz:n=0
   case neg =>
    have q1:(n==0)=false:=by simpa using hz
    have q2:(n != 0)=true:=by simpa using hz
    have HR:=hid (show lsE S L most≠0 from by rw [lsE_trl (by rw [HN.out];exact hz),HN.out];exact hz)
    clear hz
    go_wp2
    go_meet
    exact ⟨true,rfl,hid (fun _=>HR.out),hid (fun h=>by cases h),HZ2⟩
   subst hz
   by_cases h20:20<S.ss.length
   ·have d1:decide ((20:Int)<(S.ss.length:Int))=true:=decide_eq_true (by omega)
    have d2:decide (20<S.ss.length)=true:=decide_eq_true h20
    have HR:=hid (show lsE S L most≠0 from by rw [lsE_long HN.out (.inl h20)];decide)
    clear h20
    go_wp2
    go_meet
    exact ⟨true,rfl,hid (fun _=>HR.out),hid (fun h=>by cases h),HZ2⟩
   have d1:decide ((20:Int)<(S.ss.length:Int))=false:=decide_eq_false (by omega)
   have d2:decide (20<S.ss.length)=false:=decide_eq_false h20
   clear h20
   by_cases h8:8<S.cs.length
   ·have d3:decide ((8:Int)<(S.cs.length:Int))=true:=decide_eq_true (by omega)
    have d4:decide (8<S.cs.length)=true:=decide_eq_true h8
    have HR:=hid (show lsE S L most≠0 from by rw [lsE_long HN.out (.inr h8)];decide)
    clear h8
    go_wp2
    go_meet
    exact ⟨true,rfl,hid (fun _=>HR.out),hid (fun h=>by cases h),HZ2⟩
   have d3:decide ((8:Int)<(S.cs.length:Int))=false:=decide_eq_false (by omega)
   have d4:decide (8<S.cs.length)=false:=decide_eq_false h8
   clear h8
   go_wp2
   go_meet
   exact ⟨false,rfl,hid (fun h=>by cases h),hid (fun _=>HN.out),HZ2⟩
  case rest =>
  obtain ⟨rf,rfl,HR1,HR2,HZ3⟩:=hcut
  clear HZ1 HKr
  rename World=>W3
  go_upto_region 4 with fail
  go_cut [43] from 37 to 43 (fun x wx=>∃ sb:Bool,x = .bool sb∧Hid (sb=false→lsE S L most=0→(allFt S).length≤20)∧Hid (Below W0.heap.size W0 wx))
  case first =>
   cases rf with
   | true =>
    have HX:=hid (HR1.out rfl)
    clear HR1 HR2
    go_wp2
    go_meet
    exact ⟨false,rfl,hid (fun _ h=>absurd h HX.out),HZ3⟩
   | false =>
    have HX:=hid (HSM.out (trlE_ok (HR2.out rfl)).1)
    clear HR1 HR2
    obtain ⟨e0,e1,e2,e3,e4,e5,e6,e7,e8,e9,e10⟩:=case_cells K0.out HZ3.out
    go_wp2_with fail
    refine (HX.out _ HZ3.out).mono ?_
    rintro e W4 ⟨sb,rfl,hsb,hb4⟩
    have HZ4:=hid (below_step HZ3.out hb4)
    have HS:=hid hsb
    clear hb4 hsb HX e0 e1 e2 e3 e4 e5 e6 e7 e8 e9 e10
    cases sb with
    | true =>
     have HS9:=hid (HS.out rfl)
     clear HS
     go_wp2
     go_meet
     exact ⟨false,rfl,hid (fun _ _=>HS9.out),HZ4⟩
    | false =>
     go_wp2
     go_meet
     exact ⟨true,rfl,hid (fun h=>by cases h),HZ4⟩
  case rest =>
  obtain ⟨sb,rfl,HFE,HZ4⟩:=hcut
  clear HZ3 HR1 HR2 HSM
  rename World=>W4
  cases sb with
  | true =>
   go_wp2_with fail
   refine (HSH.out _ HZ4.out).mono ?_
   rintro e W9 ⟨rfl,hb9⟩
   have HB9:=hid (below_step HB0.out (below_step HZ4.out hb9))
   clear hb9
   go_wp2
   go_ret
   exact ⟨rfl,HB9.out⟩
  | false =>
  have HFW:=hid (HFE.out rfl)
  clear HFE
  obtain ⟨e0,e1,e2,e3,e4,e5,e6,e7,e8,e9,e10⟩:=case_cells K0.out HZ4.out
  go_wp2_with fail
  refine (HLE.out _ HZ4.out).mono ?_
  rintro e W5 ⟨av,M,g,n,rfl,hM,hst,hb5⟩
  have HZ5:=hid (below_step HZ4.out hb5)
  have HM5:=hid hM
  have HST:=hid hst.rd
  clear hb5 hM hst HLE HZ4 e0 e1 e2 e3 e4 e5 e6 e7 e8 e9 e10
  obtain ⟨e0,e1,e2,e3,e4,e5,e6,e7,e8,e9,e10⟩:=case_cells K0.out HZ5.out
  go_wp2_with fail
  refine (HLr.out HFW.out _ HZ5.out).mono ?_
  rintro e W6 ⟨bv,M',g',n',rfl,hM',hst',hb6⟩
  obtain ⟨rfl,rfl⟩:=hM'.one HM5.out
  have HZ6:=hid (below_step HZ5.out hb6)
  have HS1:=hid (HST.out.later hb6)
  have HS2:=hid hst'.rd
  have HFF:=hid (lsP_few HM5.out)
  clear hb6 hM' hst' HLr HZ5 HM5 HST e0 e1 e2 e3 e4 e5 e6 e7 e8 e9 e10
  obtain ⟨e0,e1,e2,e3,e4,e5,e6,e7,e8,e9,e10⟩:=case_cells K0.out HZ6.out
  go_wp2_with fail
  refine (HNX.out _ HZ6.out).mono ?_
  rintro e W7 ⟨i,m,h,rfl,hN,hb7⟩
  have HZ7:=hid (below_step HZ6.out hb7)
  have HN7:=hid hN
  replace HS1:=hid (HS1.out.later hb7)
  replace HS2:=hid (HS2.out.later hb7)
  clear hb7 hN HNX HZ6 e0 e1 e2 e3 e4 e5 e6 e7 e8 e9 e10
  obtain ⟨e0,e1,e2,e3,e4,e5,e6,e7,e8,e9,e10⟩:=case_cells K0.out HZ7.out
  go_wp2_with fail
  refine (HNr.out HFW.out _ HZ7.out).mono ?_
  rintro e W8 ⟨i',m',h',rfl,hN',hb8⟩
  obtain ⟨rfl,rfl,rfl⟩:=hN'.one HN7.out
  have HZ8:=hid (below_step HZ7.out hb8)
  have HSS:=hid (samesets_any _ _ av bv _ _ W8 (HS1.out.later hb8) (HS2.out.later hb8) HFF.out.1 HFF.out.1 HFF.out.2)
  rw [decide_eq_true rfl] at HSS
  clear hb8 hN' HNr HZ7 HN7 HS1 HS2 HFF HFW e0 e1 e2 e3 e4 e5 e6 e7 e8 e9 e10
  have q1:(n'==n')=true:=beq_self_eq_true _
  have q2:(i'==i')=true:=beq_self_eq_true _
  have q3:(m'==m')=true:=beq_self_eq_true _
  have q4:(h'==h')=true:=beq_self_eq_true _
  go_wp2_with fail
  refine HSS.out.mono ?_
  rintro e W10 ⟨rfl,hb10⟩
  have HZ10:=hid (below_step HZ8.out hb10)
  clear hb10 HSS HZ8
  go_wp2_with fail
  refine (HSH.out _ HZ10.out).mono ?_
  rintro e W9 ⟨rfl,hb9⟩
  have HB9:=hid (below_step HB0.out (below_step HZ10.out hb9))
  clear hb9
  go_wp2
  go_ret
  exact ⟨rfl,HB9.out⟩
end Go.Proofs.YteflhbfgpknabaaGreatDoor
