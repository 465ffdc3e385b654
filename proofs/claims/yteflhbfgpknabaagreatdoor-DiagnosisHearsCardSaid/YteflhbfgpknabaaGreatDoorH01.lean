/-
  A part of the proof: L40.
-/
import Derived.Test.YteflhbfgpknabaaGreatDoorM33
namespace Go.Proofs.YteflhbfgpknabaaGreatDoor
open Go.RowKit Go.Shelf
set_option maxRecDepth 100000 in
set_option maxHeartbeats 12800000 in
theorem diagnosisHears_walk (v1 v2 v3 v4 fv vk vs vc tv hv:Value) (most:Int) (fp:Nat→Value) (S:Sp) (F:List Ft) (H:Hn) (L:List Tl) (Hs:List Hn) (gk gs gc gh hk hs hc:Nat→Value) (w:World) (t:Tabs w) (d:Deb w) (c:CsIn w v1 v2 v3 v4 fv vk vs vc tv hv fp S F H L Hs gk gs gc gh hk hs hc) :
  Calls Tryz.prog 4 #[.agg #[v1,v2,v3,v4,fv,vk,vs,vc,tv,.int .i64 most,hv]] w (BoolR true w):=by
 have HB0:=Lib.hid (show Below w.heap.size w (w.alloc (.cells #[v1,v2,v3,v4,fv,vk,vs,vc,tv,.int .i64 most,hv] 36)) from (Below.refl _ _).alloc (Nat.le_refl _) _)
 have K0:=Lib.hid (Blk.new w 36 #[v1,v2,v3,v4,fv,vk,vs,vc,tv,.int .i64 most,hv])
 have HT:=Lib.hid t
 have HD:=Lib.hid d
 have HC:=Lib.hid c
 have HM:=Lib.hid (c.m.later HB0.out)
 clear t d c
 go_enter Tryz.func4,Tryz.ntmps4
 go_upto_region 1 with fail
 obtain ⟨P,hP⟩:∃ P,w.heap.size=P:=⟨_,rfl⟩
 have HP:=Lib.hid hP
 generalize w.alloc (.cells #[v1,v2,v3,v4,fv,vk,vs,vc,tv,.int .i64 most,hv] 36)=W0 at *
 rw [hP] at K0 ⊢
 clear hP
 obtain ⟨e0,e1,e2,e3,e4,e5,e6,e7,e8,e9,e10⟩:=case_cells K0.out (Below.refl _ W0)
 go_wp2_with fail
 refine (far30_any v1 v2 v3 v4 fv vk vs vc tv hv most fp S F H L Hs gk gs gc gh hk hs hc W0 HM.out HC.out.ll HC.out.lh).mono ?_
 rintro e W1 ⟨bf,rfl,hbf,hb1⟩
 have HB1:=Lib.hid (below_step HB0.out hb1)
 cases bf with
 | true =>
  clear hbf hb1 e0 e1 e2 e3 e4 e5 e6 e7 e8 e9 e10
  go_wp2_with fail
  refine (shown30_any W1 (HD.out.below HB1.out) (HT.out.below HB1.out)).mono ?_
  rintro e W2 ⟨rfl,hb2⟩
  have HB2:=Lib.hid (below_step HB1.out hb2)
  clear hb2
  go_wp2
  go_ret
  exact ⟨rfl,HB2.out⟩
 | false =>
  have HF:=Lib.hid (hbf rfl)
  have HW:=Lib.hid (HC.out.wk HF.out)
  obtain ⟨B,hB⟩:=snd_some S
  have HSB:=Lib.hid (fun (_:(checkP S).2=0)=>hB)
  have HS:=Lib.hid HF.out.sm
  have HFL:=Lib.hid (show F.length≤1000000 by have:=HF.out.fl; omega)
  have HLL:=Lib.hid (show L.length≤1000000 by have:=HF.out.ll; omega)
  clear hB hbf e0 e1 e2 e3 e4 e5 e6 e7 e8 e9 e10
  have HA:=Lib.hid (fun (W:World) (hz:Below W0.heap.size W0 W)=>hearsW_any v1 v2 v3 v4 S HW.out fp vk vs vc fv H HF.out.h.sm F HFL.out B HSB.out W (HD.out.below (below_step HB0.out hz)) (HT.out.below (below_step HB0.out hz)) (HM.out.later hz).sp HC.out.cap (HM.out.later hz).h (HM.out.later hz).f)
  have HAr:=Lib.hid (fun (W:World) (hz:Below W0.heap.size W0 W)=>hearsW30_any v1 v2 v3 v4 S HW.out fp vk vs vc fv H HF.out.h.sm F HFL.out B HSB.out W (HM.out.later hz).sp (HM.out.later hz).h (HM.out.later hz).f)
  have HE:=Lib.hid (fun (W:World) (hz:Below W0.heap.size W0 W)=>explD_any v1 v2 v3 v4 S HW.out fp fv F HFL.out L HS.out HLL.out tv gk gs gc gh B HSB.out W (HD.out.below (below_step HB0.out hz)) (HT.out.below (below_step HB0.out hz)) (HM.out.later hz).sp HC.out.cap (HM.out.later hz).t (HM.out.later hz).f)
  have HEr:=Lib.hid (fun (W:World) (hz:Below W0.heap.size W0 W)=>expl30_any v1 v2 v3 v4 S HW.out fp fv F HFL.out L HS.out HLL.out tv gk gs gc gh B HSB.out W (HM.out.later hz).sp (HM.out.later hz).t (HM.out.later hz).f)
  have HK:=Lib.hid (fun (W:World) (hz:Below W0.heap.size W0 W)=>checkD_any v1 v2 v3 v4 S HW.out fp L HS.out tv gk gs gc gh W (HT.out.below (below_step HB0.out hz)) (HM.out.later hz).sp (HM.out.later hz).t HLL.out)
  have HKr:=Lib.hid (fun (W:World) (hz:Below W0.heap.size W0 W)=>check30_any v1 v2 v3 v4 S HW.out fp L HS.out tv gk gs gc gh W (HM.out.later hz).sp (HM.out.later hz).t HLL.out)
  have HG:=Lib.hid (fun (W:World) (hz:Below W0.heap.size W0 W)=>faultsD_any v1 v2 v3 v4 S HW.out fp F fv HFL.out W (HT.out.below (below_step HB0.out hz)) (HM.out.later hz).sp (HM.out.later hz).f)
  have HGr:=Lib.hid (fun (W:World) (hz:Below W0.heap.size W0 W)=>faults30_any v1 v2 v3 v4 S HW.out fp F fv HFL.out W (HM.out.later hz).sp (HM.out.later hz).f)
  have HSH:=Lib.hid (fun (W:World) (hz:Below W0.heap.size W0 W)=>shown30_any W (HD.out.below (below_step HB0.out hz)) (HT.out.below (below_step HB0.out hz)))
  have HLN:=Lib.hid (show (heL S B F H).length≤1000000 from heL_len S B F H)
  clear HW HS HFL HLL HSB HF HC HM HT HD
  have HZ1:=Lib.hid hb1
  clear hb1 HB1
  obtain ⟨e0,e1,e2,e3,e4,e5,e6,e7,e8,e9,e10⟩:=case_cells K0.out HZ1.out
  go_wp2_with fail
  refine (HA.out _ HZ1.out).mono ?_
  rintro e W2 ⟨x1,rfl,hr1,hb2⟩
  have HZ2:=Lib.hid (below_step HZ1.out hb2)
  have HR1:=Lib.hid (ARd.of_pps hr1)
  clear hb2 HZ1 HA hr1 e0 e1 e2 e3 e4 e5 e6 e7 e8 e9 e10
  obtain ⟨e0,e1,e2,e3,e4,e5,e6,e7,e8,e9,e10⟩:=case_cells K0.out HZ2.out
  go_wp2_with fail
  refine (HAr.out _ HZ2.out).mono ?_
  rintro e W3 ⟨x2,rfl,hr2,hb3⟩
  have HZ3:=Lib.hid (below_step HZ2.out hb3)
  have HR1:=Lib.hid (HR1.out.later hb3)
  have HR2:=Lib.hid (ARd.of_pps hr2)
  clear hb3 HZ2 HAr hr2 e0 e1 e2 e3 e4 e5 e6 e7 e8 e9 e10
  obtain ⟨e0,e1,e2,e3,e4,e5,e6,e7,e8,e9,e10⟩:=case_cells K0.out HZ3.out
  go_wp2_with fail
  refine (HE.out _ HZ3.out).mono ?_
  rintro e W4 ⟨rfl,hb4⟩
  have HZ4:=Lib.hid (below_step HZ3.out hb4)
  have HR1:=Lib.hid (HR1.out.later hb4)
  have HR2:=Lib.hid (HR2.out.later hb4)
  clear hb4 HZ3 HE e0 e1 e2 e3 e4 e5 e6 e7 e8 e9 e10
  obtain ⟨e0,e1,e2,e3,e4,e5,e6,e7,e8,e9,e10⟩:=case_cells K0.out HZ4.out
  go_wp2_with fail
  refine (HEr.out _ HZ4.out).mono ?_
  rintro e W5 ⟨rfl,hb5⟩
  have HZ5:=Lib.hid (below_step HZ4.out hb5)
  have HR1:=Lib.hid (HR1.out.later hb5)
  have HR2:=Lib.hid (HR2.out.later hb5)
  clear hb5 HZ4 HEr e0 e1 e2 e3 e4 e5 e6 e7 e8 e9 e10
  obtain ⟨ne,hne⟩:∃ n,heE S F H=n:=⟨_,rfl⟩
  obtain ⟨xb,hxb⟩:∃ n,exB S B F L=n:=⟨_,rfl⟩
  obtain ⟨xn,hxn⟩:∃ n,exN S B F L=n:=⟨_,rfl⟩
  obtain ⟨xe,hxe⟩:∃ n,exE S F L=n:=⟨_,rfl⟩
  rw [hne,hxb,hxn,hxe]
  clear hne hxb hxn hxe
  obtain ⟨nk,hnk⟩:∃ n,trlE S L=n:=⟨_,rfl⟩
  obtain ⟨ng,hng⟩:∃ n,fltE S F=n:=⟨_,rfl⟩
  simp only [hnk,hng] at HK HKr HG HGr
  clear hnk hng
  go_upto_region 7 with fail
  have hmxx:Tryz.prog.follows .mixedOrders=true:=by kernel_rfl
  refine wp_plain (wp_region_flow (fun x=>{ tmps:=#[.agg #[v1,v2,v3,v4,fv,vk,vs,vc,tv,.int .i64 most,hv],.pointer (some ⟨P,0,none⟩),.bool false,x1,.int .i64 ne,x2,.int .i64 ne,.bool xb,.int .i64 xn,.int .i64 xe,.bool xb,.int .i64 xn,.int .i64 xe,.agg #[v1,v2,v3,v4,fv,vk,vs,vc,tv,.int .i64 most,hv],.bool false,undef,.tuple #[x1,.int .i64 ne],.pointer (some ⟨P,0,none⟩),.agg #[v1,v2,v3,v4],.pointer (some ⟨P,4,none⟩),fv,.pointer (some ⟨P,5,none⟩),.agg #[vk,vs,vc],.tuple #[x1,.int .i64 ne],x1,.int .i64 ne,.tuple #[x2,.int .i64 ne],.pointer (some ⟨P,0,none⟩),.agg #[v1,v2,v3,v4],.pointer (some ⟨P,4,none⟩),fv,.pointer (some ⟨P,5,none⟩),.agg #[vk,vs,vc],.tuple #[x2,.int .i64 ne],x2,.int .i64 ne,.tuple #[.bool xb,.int .i64 xn,.int .i64 xe],.pointer (some ⟨P,0,none⟩),.agg #[v1,v2,v3,v4],.pointer (some ⟨P,4,none⟩),fv,.pointer (some ⟨P,8,none⟩),tv,.tuple #[.bool xb,.int .i64 xn,.int .i64 xe],.bool xb,.int .i64 xn,.int .i64 xe,.tuple #[.bool xb,.int .i64 xn,.int .i64 xe],.pointer (some ⟨P,0,none⟩),.agg #[v1,v2,v3,v4],.pointer (some ⟨P,4,none⟩),fv,.pointer (some ⟨P,8,none⟩),tv,.tuple #[.bool xb,.int .i64 xn,.int .i64 xe],.bool xb,.int .i64 xn,.int .i64 xe,(x 58),(x 59),(x 60),(x 61),(x 62),(x 63),(x 64),(x 65),(x 66),(x 67),(x 68),(x 69),(x 70),(x 71),(x 72),(x 73),(x 74),(x 75),(x 76),(x 77),(x 78),(x 79),(x 80),(x 81),undef,undef,undef,undef,undef,undef,undef,undef,undef,undef,undef,undef,undef,undef,undef,undef,undef,undef,undef,undef,undef,undef,undef,undef,undef,undef],defers:=[] }) (fun i v z=>match i with
   | 0=>v = .pointer (some ⟨P,0,none⟩)
   | 1=>v = .agg #[v1,v2,v3,v4]
   | 2=>v = .pointer (some ⟨P,8,none⟩)
   | 3=>v=tv
   | 4=>v = .int .i64 nk
   | 5=>v = .pointer (some ⟨P,0,none⟩)
   | 6=>v = .agg #[v1,v2,v3,v4]
   | 7=>v = .pointer (some ⟨P,8,none⟩)
   | 8=>v=tv
   | 9=>v = .int .i64 nk
   | 10=>v = .bool false
   | 11=>v = .bool false
   | 12=>v = .pointer (some ⟨P,0,none⟩)
   | 13=>v = .agg #[v1,v2,v3,v4]
   | 14=>v = .pointer (some ⟨P,4,none⟩)
   | 15=>v=fv
   | 16=>v = .int .i64 ng
   | 17=>v = .pointer (some ⟨P,0,none⟩)
   | 18=>v = .agg #[v1,v2,v3,v4]
   | 19=>v = .pointer (some ⟨P,4,none⟩)
   | 20=>v=fv
   | 21=>v = .int .i64 ng
   | 22=>v = .bool false
   | 23=>v = .bool false
   | _=>True) (fun n=>(#[.agg #[v1,v2,v3,v4,fv,vk,vs,vc,tv,.int .i64 most,hv],.pointer (some ⟨P,0,none⟩),.bool false,x1,.int .i64 ne,x2,.int .i64 ne,.bool xb,.int .i64 xn,.int .i64 xe,.bool xb,.int .i64 xn,.int .i64 xe,.agg #[v1,v2,v3,v4,fv,vk,vs,vc,tv,.int .i64 most,hv],.bool false,undef,.tuple #[x1,.int .i64 ne],.pointer (some ⟨P,0,none⟩),.agg #[v1,v2,v3,v4],.pointer (some ⟨P,4,none⟩),fv,.pointer (some ⟨P,5,none⟩),.agg #[vk,vs,vc],.tuple #[x1,.int .i64 ne],x1,.int .i64 ne,.tuple #[x2,.int .i64 ne],.pointer (some ⟨P,0,none⟩),.agg #[v1,v2,v3,v4],.pointer (some ⟨P,4,none⟩),fv,.pointer (some ⟨P,5,none⟩),.agg #[vk,vs,vc],.tuple #[x2,.int .i64 ne],x2,.int .i64 ne,.tuple #[.bool xb,.int .i64 xn,.int .i64 xe],.pointer (some ⟨P,0,none⟩),.agg #[v1,v2,v3,v4],.pointer (some ⟨P,4,none⟩),fv,.pointer (some ⟨P,8,none⟩),tv,.tuple #[.bool xb,.int .i64 xn,.int .i64 xe],.bool xb,.int .i64 xn,.int .i64 xe,.tuple #[.bool xb,.int .i64 xn,.int .i64 xe],.pointer (some ⟨P,0,none⟩),.agg #[v1,v2,v3,v4],.pointer (some ⟨P,4,none⟩),fv,.pointer (some ⟨P,8,none⟩),tv,.tuple #[.bool xb,.int .i64 xn,.int .i64 xe],.bool xb,.int .i64 xn,.int .i64 xe,undef,undef,undef,undef,undef,undef,undef,undef,undef,undef,undef,undef,undef,undef,undef,undef,undef,undef,undef,undef,undef,undef,undef,undef,undef,undef,undef,undef,undef,undef,undef,undef,undef,undef,undef,undef,undef,undef,undef,undef,undef,undef,undef,undef,undef,undef,undef,undef,undef,undef]:Array Value).getD n undef) rfl hmxx (by kernel_rfl) (by kernel_rfl) ?mono ?put ?step ?done)
  case mono =>
   intro i v z z' h hb
   match i,h with
   | 0,h | 1,h | 2,h | 3,h | 4,h | 5,h | 6,h | 7,h | 8,h | 9,h | 10,h | 11,h | 12,h | 13,h | 14,h | 15,h | 16,h | 17,h | 18,h | 19,h | 20,h | 21,h | 22,h | 23,h => exact h
   | _ + 24,_=>trivial
  case put =>
   intro i o d ho hd x v
   match i,ho with
   | 0,ho | 1,ho | 2,ho | 3,ho | 4,ho | 5,ho | 6,ho | 7,ho | 8,ho | 9,ho | 10,ho | 11,ho | 12,ho | 13,ho | 14,ho | 15,ho | 16,ho | 17,ho | 18,ho | 19,ho | 20,ho | 21,ho | 22,ho | 23,ho => obtain rfl:=Option.some.inj (show some _=some o from ho); obtain rfl:=Option.some.inj (show some _=some d from hd); rfl
   | n + 24,ho=>exact absurd (Array.getElem?_eq_some_iff.1 ho).1 (by simp)
  case step =>
   intro i o ho x z hz hdep K hK
   match i,ho with
   | 0,ho | 2,ho | 5,ho | 7,ho =>
    obtain rfl:=Option.some.inj (show some _=some o from ho)
    clear hdep ho
    dsimp only at hK ⊢
    refine wpOp_step rfl (fun K2 hK2=>?_)
    go_simp
    exact hK2 _ _ (hK _ _ (Below.refl _ _) rfl)
   | 1,ho =>
    obtain rfl:=Option.some.inj (show some _=some o from ho)
    have q0:x 58 = .pointer (some ⟨P,0,none⟩):=hdep 0 (by kernel_rfl) _ _ rfl rfl
    obtain ⟨y0,y1,y2,y3,y4,y5,y6,y7,y8,y9,y10⟩:=case_cells K0.out (below_step HZ5.out hz)
    clear hdep ho
    dsimp only at hK ⊢
    simp only [q0] at hK ⊢
    refine wpOp_step rfl (fun K2 hK2=>?_)
    go_simp
    exact hK2 _ _ (hK _ _ (Below.refl _ _) rfl)
   | 3,ho =>
    obtain rfl:=Option.some.inj (show some _=some o from ho)
    have q2:x 60 = .pointer (some ⟨P,8,none⟩):=hdep 2 (by kernel_rfl) _ _ rfl rfl
    obtain ⟨y0,y1,y2,y3,y4,y5,y6,y7,y8,y9,y10⟩:=case_cells K0.out (below_step HZ5.out hz)
    clear hdep ho
    dsimp only at hK ⊢
    simp only [q2] at hK ⊢
    refine wpOp_step rfl (fun K2 hK2=>?_)
    go_simp
    exact hK2 _ _ (hK _ _ (Below.refl _ _) rfl)
   | 4,ho =>
    obtain rfl:=Option.some.inj (show some _=some o from ho)
    have q1:x 59 = .agg #[v1,v2,v3,v4]:=hdep 1 (by kernel_rfl) _ _ rfl rfl
    have q3:x 61=tv:=hdep 3 (by kernel_rfl) _ _ rfl rfl
    clear hdep ho
    dsimp only at hK ⊢
    simp only [q1,q3] at hK ⊢
    refine wpOp_step rfl (fun K2 hK2=>?_)
    go_simp
    refine (HK.out _ (below_step HZ5.out hz)).mono ?_
    rintro e z1 ⟨rfl,hb⟩
    exact hK2 _ _ (hK _ _ hb rfl)
   | 6,ho =>
    obtain rfl:=Option.some.inj (show some _=some o from ho)
    have q5:x 63 = .pointer (some ⟨P,0,none⟩):=hdep 5 (by kernel_rfl) _ _ rfl rfl
    obtain ⟨y0,y1,y2,y3,y4,y5,y6,y7,y8,y9,y10⟩:=case_cells K0.out (below_step HZ5.out hz)
    clear hdep ho
    dsimp only at hK ⊢
    simp only [q5] at hK ⊢
    refine wpOp_step rfl (fun K2 hK2=>?_)
    go_simp
    exact hK2 _ _ (hK _ _ (Below.refl _ _) rfl)
   | 8,ho =>
    obtain rfl:=Option.some.inj (show some _=some o from ho)
    have q7:x 65 = .pointer (some ⟨P,8,none⟩):=hdep 7 (by kernel_rfl) _ _ rfl rfl
    obtain ⟨y0,y1,y2,y3,y4,y5,y6,y7,y8,y9,y10⟩:=case_cells K0.out (below_step HZ5.out hz)
    clear hdep ho
    dsimp only at hK ⊢
    simp only [q7] at hK ⊢
    refine wpOp_step rfl (fun K2 hK2=>?_)
    go_simp
    exact hK2 _ _ (hK _ _ (Below.refl _ _) rfl)
   | 9,ho =>
    obtain rfl:=Option.some.inj (show some _=some o from ho)
    have q6:x 64 = .agg #[v1,v2,v3,v4]:=hdep 6 (by kernel_rfl) _ _ rfl rfl
    have q8:x 66=tv:=hdep 8 (by kernel_rfl) _ _ rfl rfl
    clear hdep ho
    dsimp only at hK ⊢
    simp only [q6,q8] at hK ⊢
    refine wpOp_step rfl (fun K2 hK2=>?_)
    go_simp
    refine (HKr.out _ (below_step HZ5.out hz)).mono ?_
    rintro e z1 ⟨rfl,hb⟩
    exact hK2 _ _ (hK _ _ hb rfl)
   | 10,ho =>
    obtain rfl:=Option.some.inj (show some _=some o from ho)
    have q4:x 62 = .int .i64 nk:=hdep 4 (by kernel_rfl) _ _ rfl rfl
    have q9:x 67 = .int .i64 nk:=hdep 9 (by kernel_rfl) _ _ rfl rfl
    clear hdep ho
    dsimp only at hK ⊢
    simp only [q4,q9] at hK ⊢
    refine wpOp_step rfl (fun K2 hK2=>?_)
    go_simp
    exact hK2 _ _ (hK _ _ (Below.refl _ _) rfl)
   | 11,ho =>
    obtain rfl:=Option.some.inj (show some _=some o from ho)
    have q10:x 68 = .bool false:=hdep 10 (by kernel_rfl) _ _ rfl rfl
    clear hdep ho
    dsimp only at hK ⊢
    simp only [q10] at hK ⊢
    refine wpOp_step rfl (fun K2 hK2=>?_)
    go_simp
    exact hK2 _ _ (hK _ _ (Below.refl _ _) rfl)
   | 12,ho | 14,ho | 17,ho | 19,ho =>
    obtain rfl:=Option.some.inj (show some _=some o from ho)
    have q11:x 69 = .bool false:=hdep 11 (by kernel_rfl) _ _ rfl rfl
    clear hdep ho
    dsimp only at hK ⊢
    simp only [q11] at hK ⊢
    refine wpOp_step rfl (fun K2 hK2=>?_)
    go_simp
    exact hK2 _ _ (hK _ _ (Below.refl _ _) rfl)
   | 13,ho =>
    obtain rfl:=Option.some.inj (show some _=some o from ho)
    have q11:x 69 = .bool false:=hdep 11 (by kernel_rfl) _ _ rfl rfl
    have q12:x 70 = .pointer (some ⟨P,0,none⟩):=hdep 12 (by kernel_rfl) _ _ rfl rfl
    obtain ⟨y0,y1,y2,y3,y4,y5,y6,y7,y8,y9,y10⟩:=case_cells K0.out (below_step HZ5.out hz)
    clear hdep ho
    dsimp only at hK ⊢
    simp only [q11,q12] at hK ⊢
    refine wpOp_step rfl (fun K2 hK2=>?_)
    go_simp
    exact hK2 _ _ (hK _ _ (Below.refl _ _) rfl)
   | 15,ho =>
    obtain rfl:=Option.some.inj (show some _=some o from ho)
    have q11:x 69 = .bool false:=hdep 11 (by kernel_rfl) _ _ rfl rfl
    have q14:x 72 = .pointer (some ⟨P,4,none⟩):=hdep 14 (by kernel_rfl) _ _ rfl rfl
    obtain ⟨y0,y1,y2,y3,y4,y5,y6,y7,y8,y9,y10⟩:=case_cells K0.out (below_step HZ5.out hz)
    clear hdep ho
    dsimp only at hK ⊢
    simp only [q11,q14] at hK ⊢
    refine wpOp_step rfl (fun K2 hK2=>?_)
    go_simp
    exact hK2 _ _ (hK _ _ (Below.refl _ _) rfl)
   | 16,ho =>
    obtain rfl:=Option.some.inj (show some _=some o from ho)
    have q11:x 69 = .bool false:=hdep 11 (by kernel_rfl) _ _ rfl rfl
    have q13:x 71 = .agg #[v1,v2,v3,v4]:=hdep 13 (by kernel_rfl) _ _ rfl rfl
    have q15:x 73=fv:=hdep 15 (by kernel_rfl) _ _ rfl rfl
    clear hdep ho
    dsimp only at hK ⊢
    simp only [q11,q13,q15] at hK ⊢
    refine wpOp_step rfl (fun K2 hK2=>?_)
    go_simp
    refine (HG.out _ (below_step HZ5.out hz)).mono ?_
    rintro e z1 ⟨rfl,hb⟩
    exact hK2 _ _ (hK _ _ hb rfl)
   | 18,ho =>
    obtain rfl:=Option.some.inj (show some _=some o from ho)
    have q11:x 69 = .bool false:=hdep 11 (by kernel_rfl) _ _ rfl rfl
    have q17:x 75 = .pointer (some ⟨P,0,none⟩):=hdep 17 (by kernel_rfl) _ _ rfl rfl
    obtain ⟨y0,y1,y2,y3,y4,y5,y6,y7,y8,y9,y10⟩:=case_cells K0.out (below_step HZ5.out hz)
    clear hdep ho
    dsimp only at hK ⊢
    simp only [q11,q17] at hK ⊢
    refine wpOp_step rfl (fun K2 hK2=>?_)
    go_simp
    exact hK2 _ _ (hK _ _ (Below.refl _ _) rfl)
   | 20,ho =>
    obtain rfl:=Option.some.inj (show some _=some o from ho)
    have q11:x 69 = .bool false:=hdep 11 (by kernel_rfl) _ _ rfl rfl
    have q19:x 77 = .pointer (some ⟨P,4,none⟩):=hdep 19 (by kernel_rfl) _ _ rfl rfl
    obtain ⟨y0,y1,y2,y3,y4,y5,y6,y7,y8,y9,y10⟩:=case_cells K0.out (below_step HZ5.out hz)
    clear hdep ho
    dsimp only at hK ⊢
    simp only [q11,q19] at hK ⊢
    refine wpOp_step rfl (fun K2 hK2=>?_)
    go_simp
    exact hK2 _ _ (hK _ _ (Below.refl _ _) rfl)
   | 21,ho =>
    obtain rfl:=Option.some.inj (show some _=some o from ho)
    have q11:x 69 = .bool false:=hdep 11 (by kernel_rfl) _ _ rfl rfl
    have q18:x 76 = .agg #[v1,v2,v3,v4]:=hdep 18 (by kernel_rfl) _ _ rfl rfl
    have q20:x 78=fv:=hdep 20 (by kernel_rfl) _ _ rfl rfl
    clear hdep ho
    dsimp only at hK ⊢
    simp only [q11,q18,q20] at hK ⊢
    refine wpOp_step rfl (fun K2 hK2=>?_)
    go_simp
    refine (HGr.out _ (below_step HZ5.out hz)).mono ?_
    rintro e z1 ⟨rfl,hb⟩
    exact hK2 _ _ (hK _ _ hb rfl)
   | 22,ho =>
    obtain rfl:=Option.some.inj (show some _=some o from ho)
    have q11:x 69 = .bool false:=hdep 11 (by kernel_rfl) _ _ rfl rfl
    have q16:x 74 = .int .i64 ng:=hdep 16 (by kernel_rfl) _ _ rfl rfl
    have q21:x 79 = .int .i64 ng:=hdep 21 (by kernel_rfl) _ _ rfl rfl
    clear hdep ho
    dsimp only at hK ⊢
    simp only [q11,q16,q21] at hK ⊢
    refine wpOp_step rfl (fun K2 hK2=>?_)
    go_simp
    exact hK2 _ _ (hK _ _ (Below.refl _ _) rfl)
   | 23,ho =>
    obtain rfl:=Option.some.inj (show some _=some o from ho)
    have q11:x 69 = .bool false:=hdep 11 (by kernel_rfl) _ _ rfl rfl
    have q22:x 80 = .bool false:=hdep 22 (by kernel_rfl) _ _ rfl rfl
    clear hdep ho
    dsimp only at hK ⊢
    simp only [q11,q22] at hK ⊢
    refine wpOp_step rfl (fun K2 hK2=>?_)
    go_simp
    exact hK2 _ _ (hK _ _ (Below.refl _ _) rfl)
   | n + 24,ho=>exact absurd (Array.getElem?_eq_some_iff.1 ho).1 (by simp)
  case done =>
   intro x z hz hres
   have q23:x 81 = .bool false:=hres 23 _ _ rfl rfl
   have HZ6:=Lib.hid (below_step HZ5.out hz)
   have HR1:=Lib.hid (HR1.out.later hz)
   have HR2:=Lib.hid (HR2.out.later hz)
   clear hres hz HK HKr HG HGr HZ5
   have HSM:=Lib.hid (samep_any _ _ x1 x2 z HR1.out HR2.out HLN.out)
   rw [decide_eq_true rfl] at HSM
   dsimp only
   simp only [q23]
   go_wp2_with fail
   refine (HSM.out).mono ?_
   rintro e W7 ⟨rfl,hb7⟩
   have HZ7:=Lib.hid (below_step HZ6.out hb7)
   clear hb7 HSM HR1 HR2 HLN
   go_wp2_with fail
   refine (HSH.out _ HZ7.out).mono ?_
   rintro e W8 ⟨rfl,hb8⟩
   have HZ8:=Lib.hid (below_step HB0.out (below_step HZ7.out hb8))
   clear hb8
   go_wp2
   go_ret
   exact ⟨rfl,HZ8.out⟩
end Go.Proofs.YteflhbfgpknabaaGreatDoor
