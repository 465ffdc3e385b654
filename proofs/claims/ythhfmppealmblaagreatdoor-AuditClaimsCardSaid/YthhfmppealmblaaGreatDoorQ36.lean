/-
  A part of the proof: AK4.
-/
import Derived.Test.YthhfmppealmblaaGreatDoorQ35
namespace Go.Proofs.YthhfmppealmblaaGreatDoor
open Go.RowKit
def JD (S d : Nat) (v0 : Value) (J : (Nat→Bool)→(Nat→Value)→World→Prop) (ℓ : Nat→Bool) (x : Nat→Value) (z : World) : Prop:=J ℓ x z∧(ℓ S = false→x d = v0)
theorem jd_start {S d : Nat} {v0 : Value} {J : (Nat→Bool)→(Nat→Value)→World→Prop} {n : Nat} {x : Nat→Value} {w : World} (h : ∀ ℓ : Nat→Bool,(∀ k,k < n→ℓ k = false)→J ℓ x w) (hx : x d = v0) (ℓ : Nat→Bool) (hl : ∀ k,k < n→ℓ k = false) : JD S d v0 J ℓ x w:=⟨h ℓ hl,fun _ => hx⟩
theorem jd_cong {S d : Nat} {v0 : Value} {J : (Nat→Bool)→(Nat→Value)→World→Prop} {n : Nat} (hS : S < n) (h : ∀ (ℓ ℓ' : Nat→Bool) (x : Nat→Value) (w : World),(∀ k,k < n→ℓ k = ℓ' k)→J ℓ x w→J ℓ' x w) (ℓ ℓ' : Nat→Bool) (x : Nat→Value) (w : World) (hl : ∀ k,k < n→ℓ k = ℓ' k) (hj : JD S d v0 J ℓ x w) : JD S d v0 J ℓ' x w:=⟨h ℓ ℓ' x w hl hj.1,fun q => hj.2 ((hl S hS).trans q)⟩
theorem jd_plain {S d i : Nat} {v0 : Value} {J : (Nat→Bool)→(Nat→Value)→World→Prop} {ℓ : Nat→Bool} {x x' : Nat→Value} {w w' : World} (hj : JD S d v0 J ℓ x w) (h : J (setB ℓ i) x' w') (hS : i ≠ S) (hx : x' d = x d) : JD S d v0 J (setB ℓ i) x' w' :=
 ⟨h,fun q => by rw [setB,if_neg (fun e => hS e.symm)] at q; exact hx.trans (hj.2 q)⟩
theorem jd_last {S d : Nat} {v0 : Value} {J : (Nat→Bool)→(Nat→Value)→World→Prop} {ℓ : Nat→Bool} {x' : Nat→Value} {w' : World} (h : J (setB ℓ S) x' w') : JD S d v0 J (setB ℓ S) x' w' :=
 ⟨h,fun q => by rw [setB,if_pos rfl] at q; cases q⟩
theorem row_form {W : World} {base : Nat} {t : TypeId} {k n : Nat} {v : Value} {xs : List Value} (h : W.ownsRow base t k v n xs) : ∃ a n c,v = .slice a n c:=by
 rcases h.2 with ⟨rfl,_⟩ | ⟨g,cap,cur,rfl,_⟩
 ·exact ⟨_,_,_,rfl⟩
 ·exact ⟨_,_,_,rfl⟩
theorem mo_info : (Tryz.prog.info? 97).map (fun i => (i.zero,i.size,i.bytes)) = some (some (.agg #[.int .i64 0,.slice none 0 0,.slice none 0 0]),3,56):=by kernel_rfl
theorem audE_parts {S : Sp} {l : List Ev} (h : audE S l = 0) : (checkP S).2 = 0∧(recE S l).2 = 0:=by
 unfold audE at h
 split at h
 ·rename_i q
  split at h
  ·rename_i q2
   exact ⟨q,q2⟩
  ·cases h
 ·rename_i q
  exact absurd h q
set_option maxRecDepth 100000 in
set_option maxHeartbeats 12800000 in
theorem claims34_any (v1 v2 v3 v4 : Value) (S : Sp) (ok : SpOk S) (fp : Nat→Value) (l : List Ev) (vl : Value) (cls : List Cl) (vc : Value) (B : (Th→Int)→Pp→Bool) (hB : SndIs S B) (w : World) (hsp : SpRd w v1 v2 v3 v4 fp S) (hlv : ARd w vl 5 (l.map evC)) (hcv : ARd w vc 4 (cls.map clC)) (hl : l.length ≤ 50000) (hcl : cls.length ≤ 50000) (hsm : audE S l = 0→l.length ≤ 100) (hcm : cls.length ≤ 100 ∨ 20000 < cls.length) :
  Calls Tryz.prog 15 #[.agg #[v1,v2,v3,v4],vl,vc] w (CsR S B l cls w):=by
 obtain ⟨i0,hi0,hz0,hz1,hz2⟩:=info_parts mo_info
 obtain ⟨al,cl,evc⟩:=hcv.clForm
 subst evc
 have HB0:=Lib.hid (show Below w.heap.size w (w.alloc (.cells #[v1,v2,v3,v4] 27)) from (Below.refl _ w).alloc (Nat.le_refl _) _)
 have B0:=Lib.hid (Blk.new w 27 #[v1,v2,v3,v4])
 have HCK:=Lib.hid (fun (W : World) (hb : Below w.heap.size w W) => rcheck34_any v1 v2 v3 v4 S ok fp l vl W (hsp.later hb) (by omega) (hlv.later hb))
 have HTK:=Lib.hid (fun (W : World) (hb : Below w.heap.size w W) => ticks34_any l vl W (hlv.later hb) hl)
 have HVA:=Lib.hid (fun (h0 : (checkP S).2 = 0) (c : Cl) (W : World) (hb : Below w.heap.size w W) => valid34_any v1 v2 v3 v4 S fp c W (hsp.later hb) (spGood h0).rs (spGood h0).r)
 have HSO:=Lib.hid (fun (h0 : (recE S l).2 = 0) (t : Int) (W : World) (hb : Below w.heap.size w W) => sounding34_any v1 v2 v3 v4 S ok fp l h0 vl t B hB W (hsp.later hb) (hlv.later hb))
 have HCD:=Lib.hid (fun (t : Int) (W : World) (hb : Below w.heap.size w W) => claimed_any cls (.slice al cls.length cl) t W (hcv.later hb) hcl)
 have HFA:=Lib.hid (fun (h0 : (checkP S).2 = 0) (MM : List Mo) (vm : Value) (W : World) (base : Nat) (hb : Below w.heap.size w W) (hm : MoI base (fun t => sndL S B (upF l t)) (saidL cls) MM vm W) (hlm : MM.length ≤ 1000) (hts : MM.map (·.1) = ticksC (ticksL [] l) cls) => by
  have h1:=faults34_any v1 v2 v3 v4 S h0 fp (fun t => sndL S B (upF l t)) (saidL cls) MM vm W (hsp.later hb) hm.ard.1 hm.ard.2 hlm (fun t => ⟨by have:=sndL_len h0 B (upF l t); omega,by have:=saidL_len cls t; omega⟩) (by rw [hts]; exact asc_ticksC (asc_ticksL List.Pairwise.nil))
  rw [hts,faCl_ref] at h1
  exact h1)
 have HSM:=Lib.hid hsm
 have HCV:=Lib.hid hcv
 clear hsp hlv hcv hsm ok hB
 go_enter Tryz.func15,Tryz.ntmps15
 go_wp2_with fail
 refine (HCK.out _ HB0.out).mono ?_
 rintro e W ⟨rfl,hb⟩
 have HB1:=Lib.hid (below_step HB0.out hb)
 have B1:=Lib.hid (B0.out.below hb)
 clear HCK hb B0 HB0
 by_cases hE : audE S l = 0
 case neg =>
  have HN:=Lib.hid (clsE_ne (cls:=cls) hE)
  have HE:=Lib.hid hE
  obtain ⟨e0,he0⟩ : ∃ e0,audE S l = e0:=⟨_,rfl⟩
  rw [he0] at HN HE hE ⊢
  have q1 : (e0 == 0) = false:=by simpa using hE
  clear he0 hE
  go_wp2
  go_ret2
  exact ⟨_,[],_,rfl,World.ownsRow_nil _ _ _ _,.inl ⟨by rw [HN.out]; exact HE.out,rfl,HN.out.symm⟩,HB1.out⟩
 have HE:=Lib.hid hE
 rw [hE]
 by_cases hlong : 20000 < cls.length
 ·have HN:=Lib.hid (clsE_long hE hlong)
  have h2 : (20000 : Int) < (cls.length : Int):=by omega
  clear hE
  go_wp2
  go_ret2
  exact ⟨_,[],_,rfl,World.ownsRow_nil _ _ _ _,.inl ⟨by rw [HN.out]; decide,rfl,HN.out.symm⟩,HB1.out⟩
 have hc100 : cls.length ≤ 100:=by omega
 have hl100:=HSM.out hE
 have h2 : ¬ (20000 : Int) < (cls.length : Int):=by omega
 obtain ⟨hck,hrk⟩:=audE_parts hE
 have HVA2:=Lib.hid (HVA.out hck)
 have HSO2:=Lib.hid (HSO.out hrk)
 have HFA2:=Lib.hid (HFA.out hck)
 clear hE HVA HSO HFA hck hrk HSM hcm hlong
 go_wp2_with fail
 refine (HTK.out _ HB1.out).mono ?_
 rintro e W2 ⟨vt,rfl,ht,hb⟩
 have HB2:=Lib.hid (below_step HB1.out hb)
 have B2:=Lib.hid (B1.out.below hb)
 have HT0:=Lib.hid (show TsRd W2 vt (ticksC (ticksL [] l) (cls.take 0)) from ht)
 have HR0:=Lib.hid (Below.refl W2.heap.size W2)
 have HV0:=Lib.hid (show ∀ j (hj : j < cls.length),j < 0→clE S cls[j] = 0 from fun j _ h => absurd h (Nat.not_lt_zero _))
 clear hb ht B1 HB1 HTK
 go_wp2
 go_loopw [9,10] (fun v x wr => ∃ i : Nat,i ≤ cls.length∧x = .int .i64 i∧RowKit.Hid (TsRd wr v (ticksC (ticksL [] l) (cls.take i)))∧RowKit.Hid (∀ j (hj : j < cls.length),j < i→clE S cls[j] = 0)∧RowKit.Hid (Below W2.heap.size W2 wr)) (fun _ x _ => cls.length - (intOf x).toNat)
 case atStart => exact ⟨0,Nat.zero_le _,rfl,HT0,HV0,HR0⟩
 clear HT0 HV0 HR0
 obtain ⟨i,hi,rfl,hT,hV,hR⟩:=hrel
 by_cases hil : i < cls.length
 ·have hi2 : (i : Int) < (cls.length : Int):=by omega
  have HBW:=Lib.hid (below_step HB2.out hR.out)
  obtain ⟨b,o,c',ev,hbl,k0,k1,k2,k3⟩:=(HCV.out.later HBW.out).clAt i hil
  cases ev
  have HTK:=Lib.hid (ticksC_take (ts:=ticksL [] l) hil)
  have HX1:=Lib.hid (fun (h : clE S cls[i] ≠ 0) => clsE_at HE.out (by omega : cls.length ≤ 20000) hil hV.out h)
  have HX2:=Lib.hid (show clE S cls[i] = 0→∀ j (hj : j < cls.length),j < i + 1→clE S cls[j] = 0 from fun h j hj hji => by
   rcases Nat.lt_or_ge j i with q | q
   ·exact hV.out j hj q
   ·have : j = i:=by omega
    subst this
    exact h)
  have hlT : (ticksC (ticksL [] l) (cls.take i)).length ≤ 1000:=by
   have h3:=len_ticksC (ticksL [] l) (cls.take i)
   have h4:=len_ticksL [] l
   rw [List.length_take] at h3
   rw [List.length_nil] at h4
   omega
  have hlT2 : ∀ t,(putT (ticksC (ticksL [] l) (cls.take i)) t).length ≤ 2000:=fun t => by
   have:=len_putT (t:=t) (l:=ticksC (ticksL [] l) (cls.take i))
   omega
  obtain ⟨T,hTn⟩ : ∃ T,ticksC (ticksL [] l) (cls.take i) = T:=⟨_,rfl⟩
  rw [hTn] at hT hlT hlT2 HTK
  obtain ⟨c,hcn⟩ : ∃ c,cls[i] = c:=⟨_,rfl⟩
  rw [hcn] at k0 k1 k2 k3 HTK HX1 HX2
  have HVC:=Lib.hid (HVA2.out c)
  obtain ⟨p,fr,tt⟩:=c
  simp only at k0 k1 k2 k3
  have HPUT : Hid (clPut T (p,fr,tt) = if 0 ≤ tt then putT (putT T fr) tt else putT T fr):=Lib.hid rfl
  obtain ⟨ce,hce⟩ : ∃ ce,clE S (p,fr,tt) = ce:=⟨_,rfl⟩
  rw [hce] at HX1 HX2 HVC
  clear hTn hcn hV hce
  obtain ⟨s0,s1,s2,s3⟩:=(B2.out.below hR.out).four
  have hdr:=hold8 (W0:=wr) ⟨Below.refl _ wr,s0,s1,s2,s3,k0,k1,k2,k3⟩ ((Below.refl _ wr).drew)
  clear s0 s1 s2 s3 k0 k1
  go_upto_region 10 with fail
  go_region_held3 (fun w' => Below wr.heap.size wr w'∧w'.cell? ⟨w.heap.size,0,none⟩ = some v1∧w'.cell? ⟨w.heap.size,1,none⟩ = some v2∧w'.cell? ⟨w.heap.size,2,none⟩ = some v3∧w'.cell? ⟨w.heap.size,3,none⟩ = some v4∧w'.cell? ⟨b,o + i * 4,none⟩ = some (.int .i64 p.1)∧w'.cell? ⟨b,o + i * 4 + 1,none⟩ = some (.int .i64 p.2)∧w'.cell? ⟨b,o + i * 4 + 2,none⟩ = some (.int .i64 fr)∧w'.cell? ⟨b,o + i * 4 + 3,none⟩ = some (.int .i64 tt)) (first | exact hdr | assumption) (first | (go_at_call 19; (with_reducible refine (HVC.out _ (below_step HBW.out hdr.1)).mono ?_); rintro e w2 ⟨rfl,hb2⟩; have hn:=hold8 hdr hb2; clear hb2))
  have HRN:=Lib.hid (below_step hR.out hn.1)
  have HBN:=Lib.hid (below_step HBW.out hn.1)
  have HTN:=Lib.hid (hT.out.later hn.1)
  have m2:=hn.2.2.2.2.2.2.2.1
  have m3:=hn.2.2.2.2.2.2.2.2
  clear hdr hn hT HVC k2 k3
  by_cases hz : ce = 0
  case neg =>
   have q1 : (ce == 0) = false:=by simpa using hz
   have HN:=Lib.hid (HX1.out hz)
   have HZ:=Lib.hid hz
   clear HX1 HX2 HTK HPUT hz m2 m3
   go_wp2
   go_ret2
   exact ⟨_,[],_,rfl,World.ownsRow_nil _ _ _ _,.inl ⟨by rw [HN.out]; exact HZ.out,rfl,HN.out.symm⟩,HBN.out⟩
  have HV2:=Lib.hid (HX2.out hz)
  subst hz
  clear HX1 HX2
  go_wp2_with fail
  refine (put_any T _ fr w2 HTN.out (by omega)).mono ?_
  rintro e w3 ⟨u3,rfl,ht3,hb3⟩
  have HR3:=Lib.hid (below_step HRN.out hb3)
  have n3 : w3.cell? ⟨b,o + i * 4 + 3,none⟩ = some (.int .i64 tt):=(hb3.cell (cell_size m3)).trans m3
  have HT3:=Lib.hid ht3
  have hl3:=hlT2 fr
  clear ht3 hb3 m2 m3 HTN HBN HRN hlT2 hlT
  by_cases ht0 : 0 ≤ tt
  ·have HPQ:=Lib.hid (HPUT.out.trans (if_pos ht0))
   have q2 : decide ((0 : Int) ≤ tt) = true:=decide_eq_true ht0
   clear HPUT
   go_wp2_with fail
   refine (put_any (putT T fr) _ tt w3 HT3.out (by omega)).mono ?_
   rintro e w4 ⟨u4,rfl,ht4,hb4⟩
   have HR4:=Lib.hid (below_step HR3.out hb4)
   have HT4:=Lib.hid ht4
   rw [← HPQ.out,← HTK.out] at HT4
   clear ht4 hb4 HT3 n3 HR3
   go_wp2
   go_roundw
   case rel => exact ⟨i + 1,by omega,by go_num,HT4,HV2,HR4⟩
   case measure => simp [intOf]; omega
  ·have HPQ:=Lib.hid (HPUT.out.trans (if_neg ht0))
   have q2 : decide ((0 : Int) ≤ tt) = false:=decide_eq_false ht0
   rw [← HPQ.out,← HTK.out] at HT3
   clear HPUT
   go_wp2
   go_roundw
   case rel => exact ⟨i + 1,by omega,by go_num,HT3,HV2,HR3⟩
   case measure => simp [intOf]; omega
 ·have hi2 : ¬ (i : Int) < (cls.length : Int):=by omega
  have hie : i = cls.length:=by omega
  rw [hie,List.take_length] at hT
  have HZ:=Lib.hid (clsE_zero HE.out (by omega : cls.length ≤ 20000) (fun j hj => hV.out j hj (by omega)))
  have HLT:=len_ticksC (ticksL [] l) cls
  have h4:=len_ticksL [] l
  rw [List.length_nil] at h4
  obtain ⟨T,hTn⟩ : ∃ T,ticksC (ticksL [] l) cls = T:=⟨_,rfl⟩
  rw [hTn] at hT HLT
  have HTT:=Lib.hid hTn
  clear hie hV hTn HVA2
  have hlT : T.length ≤ 1000:=by omega
  have HBW:=Lib.hid (below_step HB2.out hR.out)
  obtain ⟨ta,tc,etv⟩:=hT.out.rd.intForm
  subst etv
  have HB3:=Lib.hid (B2.out.below hR.out)
  obtain ⟨F,hFn⟩ : ∃ F : Int→List Pp,(fun t => sndL S B (upF l t)) = F:=⟨_,rfl⟩
  have HFN:=Lib.hid hFn
  have HSO3:=Lib.hid (show ∀ (t : Int) (W : World),Below w.heap.size w W→Calls Tryz.prog 21 #[.agg #[v1,v2,v3,v4],vl,.int .i64 t] W (PpsR (F t) W) from fun t W hb => by have h5:=HSO2.out t W hb; rw [← hFn]; exact h5)
  have HFA3:=Lib.hid HFA2.out
  rw [hFn] at HFA3
  have HM0:=Lib.hid (MoI.start wr.heap.size F (saidL cls) wr)
  have HR0:=Lib.hid (Below.refl wr.heap.size wr)
  have HN0 : Hid (([] : List Mo).map (·.1) = T.take 0):=Lib.hid rfl
  clear hFn HSO2 HFA2 h4 HLT
  go_wp2
  rename World => W3
  go_loopw [12,13] (fun v x wx => ∃ (i : Nat) (MM : List Mo),i ≤ T.length∧x = .int .i64 i∧RowKit.Hid (MM.map (·.1) = T.take i)∧RowKit.Hid (MoI W3.heap.size F (saidL cls) MM v wx)∧RowKit.Hid (Below W3.heap.size W3 wx)) (fun _ x _ => T.length - (intOf x).toNat)
  case atStart => exact ⟨0,[],Nat.zero_le _,rfl,HN0,HM0,HR0⟩
  clear HN0 HM0 HR0
  obtain ⟨j,MM,hj,rfl,hN,hM,hJ⟩:=hrel
  by_cases hjl : j < T.length
  ·have hi3 : (j : Int) < (T.length : Int):=by omega
   obtain ⟨bt,ot,c',ev,hbt,q0⟩:=hT.out.rd.intAt j hjl
   cases ev
   have hNX : (MM ++ [(T[j],Value.int .i64 0,Value.int .i64 0)]).map (·.1) = T.take (j + 1):=by rw [List.map_append,hN.out,List.take_succ_eq_append_getElem hjl]; rfl
   obtain ⟨tk,htk⟩ : ∃ tk,T[j] = tk:=⟨_,rfl⟩
   rw [htk] at q0 hNX
   have HNX:=Lib.hid (show ∀ s c,(MM ++ [((tk,s,c) : Mo)]).map (·.1) = T.take (j + 1) from fun s c => by rw [← hNX,List.map_append,List.map_append]; rfl)
   have HQ0:=Lib.hid q0
   have hmml : MM.length ≤ 1000:=by rw [← List.length_map (f:=(·.1)),hN.out,List.length_take]; omega
   clear q0 hNX htk hN
   go_upto_region 20 with fail
   have hmxx : Tryz.prog.follows .mixedOrders = true:=by kernel_rfl
   refine wp_normal (wp_region_flowJ (fun xX => { tmps:=#[.agg #[v1,v2,v3,v4],vl,.slice al cls.length cl,.pointer (some ⟨w.heap.size,0,none⟩),undef,undef,u6,u7,.int .i64 0,.slice (some ⟨bt,ot,none⟩) T.length tc,.int .i64 (i : Int),u11,(xX 12),.int .i64 (j : Int),.agg #[v1,v2,v3,v4],vl,.int .i64 0,.int .i64 0,.bool false,undef,.slice al cls.length cl,.int .i64 (cls.length : Int),.bool (decide (20000 < (cls.length : Int))),vl,vt,.int .i64 (i : Int),.slice al cls.length cl,.int .i64 (cls.length : Int),.bool false,u29,u30,u31,u32,u33,u34,u35,u36,u37,u38,u39,u40,u41,u42,u43,u44,u45,u46,u47,u48,u49,u50,u51,u52,u53,u54,u55,u56,u57,u58,u59,.int .i64 (j : Int),.slice (some ⟨bt,ot,none⟩) T.length tc,.int .i64 (T.length : Int),.bool true,u64,u65,(xX 66),(xX 67),(xX 68),(xX 69),(xX 70),(xX 71),(xX 72),(xX 73),(xX 74),(xX 75),(xX 76),(xX 77),(xX 78),(xX 79),(xX 80),(xX 81),(xX 82),(xX 83),(xX 84),(xX 85),(xX 86),undef,undef,undef,undef,undef],defers:=[] }) (fun iI v z => match iI with
    | 0 => v = u12
    | 1 => v = .slice (some ⟨bt,ot,none⟩) T.length tc
    | 2 => v = .int .i64 j
    | 3 => v = .pointer (some ⟨bt,ot + j,none⟩)
    | 4 => v = .int .i64 tk
    | 5 => v = .agg #[v1,v2,v3,v4]
    | 6 => v = vl
    | 7 => v = .slice (some ⟨bt,ot,none⟩) T.length tc
    | 8 => v = .int .i64 j
    | 9 => v = .pointer (some ⟨bt,ot + j,none⟩)
    | 10 => v = .int .i64 tk
    | 11 => ∃ (sa : Option Addr) (sn sc : Nat),v = .slice sa sn sc∧z.ownsRow W3.heap.size 45 2 (.slice sa sn sc) (F tk).length (ppCs (F tk))
    | 12 => v = .slice al cls.length cl
    | 13 => v = .slice (some ⟨bt,ot,none⟩) T.length tc
    | 14 => v = .int .i64 j
    | 15 => v = .pointer (some ⟨bt,ot + j,none⟩)
    | 16 => v = .int .i64 tk
    | 17 => ∃ (ca : Option Addr) (cn cc : Nat),v = .slice ca cn cc∧z.ownsRow W3.heap.size 45 2 (.slice ca cn cc) ((saidL cls) tk).length (ppCs ((saidL cls) tk))
    | 18 => ∃ (sa : Option Addr) (sn sc : Nat) (ca : Option Addr) (cn cc : Nat),v = .agg #[.int .i64 tk,.slice sa sn sc,.slice ca cn cc]∧z.ownsRow W3.heap.size 45 2 (.slice sa sn sc) (F tk).length (ppCs (F tk))∧z.ownsRow W3.heap.size 45 2 (.slice ca cn cc) ((saidL cls) tk).length (ppCs ((saidL cls) tk))
    | 19 => ∃ (bb : Nat) (sa : Option Addr) (sn sc : Nat) (ca : Option Addr) (cn cc : Nat),v = .slice (some ⟨bb,0,none⟩) 1 1∧z.ownsRow W3.heap.size 45 2 (.slice sa sn sc) (F tk).length (ppCs (F tk))∧z.ownsRow W3.heap.size 45 2 (.slice ca cn cc) ((saidL cls) tk).length (ppCs ((saidL cls) tk))∧u12.ownBlock ≠ some bb∧z.cell? ⟨bb,0,none⟩ = some (.int .i64 tk)∧z.cell? ⟨bb,1,none⟩ = some (.slice sa sn sc)∧z.cell? ⟨bb,2,none⟩ = some (.slice ca cn cc)
    | 20 => ∃ (gg cap : Nat) (s c : Value),v = .slice (some ⟨gg,0,none⟩) (MM.length + 1) cap∧MoI W3.heap.size F (saidL cls) (MM ++ [(tk,s,c)]) (.slice (some ⟨gg,0,none⟩) (MM.length + 1) cap) z∧Below W3.heap.size W3 z
    | 21 => True
    | _ => True) (JD 21 12 u12 (JA 20 21 wr (fun xX z => ∃ (gg cap : Nat) (s c : Value),xX 12 = .slice (some ⟨gg,0,none⟩) (MM.length + 1) cap∧MoI W3.heap.size F (saidL cls) (MM ++ [(tk,s,c)]) (.slice (some ⟨gg,0,none⟩) (MM.length + 1) cap) z∧Below W3.heap.size W3 z))) (fun n => (#[.agg #[v1,v2,v3,v4],vl,.slice al cls.length cl,.pointer (some ⟨w.heap.size,0,none⟩),undef,undef,u6,u7,.int .i64 0,.slice (some ⟨bt,ot,none⟩) T.length tc,.int .i64 (i : Int),u11,u12,.int .i64 (j : Int),.agg #[v1,v2,v3,v4],vl,.int .i64 0,.int .i64 0,.bool false,undef,.slice al cls.length cl,.int .i64 (cls.length : Int),.bool (decide (20000 < (cls.length : Int))),vl,vt,.int .i64 (i : Int),.slice al cls.length cl,.int .i64 (cls.length : Int),.bool false,u29,u30,u31,u32,u33,u34,u35,u36,u37,u38,u39,u40,u41,u42,u43,u44,u45,u46,u47,u48,u49,u50,u51,u52,u53,u54,u55,u56,u57,u58,u59,.int .i64 (j : Int),.slice (some ⟨bt,ot,none⟩) T.length tc,.int .i64 (T.length : Int),.bool true,u64,u65,u66,u67,u68,u69,u70,u71,u72,u73,u74,u75,u76,u77,u78,u79,u80,u81,u82,u83,u84,u85,u86,undef,undef,undef,undef,undef] : Array Value).getD n undef) rfl hmxx (by kernel_rfl) (by kernel_rfl) (jd_start (ja_start (of_decide_eq_true (by kernel_rfl))) rfl) (jd_cong (of_decide_eq_true (by kernel_rfl)) (fun ℓ ℓ' xX w h hj => ja_cong (of_decide_eq_true (by kernel_rfl)) (of_decide_eq_true (by kernel_rfl)) ℓ ℓ' xX w h hj)) ?put ?step ?done)
   case put =>
    intro iI oO dD ho hd xX vV
    match iI,ho with
    | 0,ho => obtain rfl:=Option.some.inj (show some _ = some oO from ho); obtain rfl:=Option.some.inj (show some _ = some dD from hd); rfl
    | 1,ho => obtain rfl:=Option.some.inj (show some _ = some oO from ho); obtain rfl:=Option.some.inj (show some _ = some dD from hd); rfl
    | 2,ho => obtain rfl:=Option.some.inj (show some _ = some oO from ho); obtain rfl:=Option.some.inj (show some _ = some dD from hd); rfl
    | 3,ho => obtain rfl:=Option.some.inj (show some _ = some oO from ho); obtain rfl:=Option.some.inj (show some _ = some dD from hd); rfl
    | 4,ho => obtain rfl:=Option.some.inj (show some _ = some oO from ho); obtain rfl:=Option.some.inj (show some _ = some dD from hd); rfl
    | 5,ho => obtain rfl:=Option.some.inj (show some _ = some oO from ho); obtain rfl:=Option.some.inj (show some _ = some dD from hd); rfl
    | 6,ho => obtain rfl:=Option.some.inj (show some _ = some oO from ho); obtain rfl:=Option.some.inj (show some _ = some dD from hd); rfl
    | 7,ho => obtain rfl:=Option.some.inj (show some _ = some oO from ho); obtain rfl:=Option.some.inj (show some _ = some dD from hd); rfl
    | 8,ho => obtain rfl:=Option.some.inj (show some _ = some oO from ho); obtain rfl:=Option.some.inj (show some _ = some dD from hd); rfl
    | 9,ho => obtain rfl:=Option.some.inj (show some _ = some oO from ho); obtain rfl:=Option.some.inj (show some _ = some dD from hd); rfl
    | 10,ho => obtain rfl:=Option.some.inj (show some _ = some oO from ho); obtain rfl:=Option.some.inj (show some _ = some dD from hd); rfl
    | 11,ho => obtain rfl:=Option.some.inj (show some _ = some oO from ho); obtain rfl:=Option.some.inj (show some _ = some dD from hd); rfl
    | 12,ho => obtain rfl:=Option.some.inj (show some _ = some oO from ho); obtain rfl:=Option.some.inj (show some _ = some dD from hd); rfl
    | 13,ho => obtain rfl:=Option.some.inj (show some _ = some oO from ho); obtain rfl:=Option.some.inj (show some _ = some dD from hd); rfl
    | 14,ho => obtain rfl:=Option.some.inj (show some _ = some oO from ho); obtain rfl:=Option.some.inj (show some _ = some dD from hd); rfl
    | 15,ho => obtain rfl:=Option.some.inj (show some _ = some oO from ho); obtain rfl:=Option.some.inj (show some _ = some dD from hd); rfl
    | 16,ho => obtain rfl:=Option.some.inj (show some _ = some oO from ho); obtain rfl:=Option.some.inj (show some _ = some dD from hd); rfl
    | 17,ho => obtain rfl:=Option.some.inj (show some _ = some oO from ho); obtain rfl:=Option.some.inj (show some _ = some dD from hd); rfl
    | 18,ho => obtain rfl:=Option.some.inj (show some _ = some oO from ho); obtain rfl:=Option.some.inj (show some _ = some dD from hd); rfl
    | 19,ho => obtain rfl:=Option.some.inj (show some _ = some oO from ho); obtain rfl:=Option.some.inj (show some _ = some dD from hd); rfl
    | 20,ho => obtain rfl:=Option.some.inj (show some _ = some oO from ho); obtain rfl:=Option.some.inj (show some _ = some dD from hd); rfl
    | 21,ho => obtain rfl:=Option.some.inj (show some _ = some oO from ho); obtain rfl:=Option.some.inj (show some _ = some dD from hd); rfl
    | n + 22,ho => exact absurd (Array.getElem?_eq_some_iff.1 ho).1 (by simp)
   case step =>
    intro iI oO ho ℓ xX z hj hli hup hdl hdep K hK
    match iI,ho with
    | 0,ho =>
     obtain rfl:=Option.some.inj (show some _ = some oO from ho)
     have hls : ℓ 21 = false:=hup 12 21 (by kernel_rfl)
     have hPl:=fun (vv : Value) w' (hb : Below z.heap.size z w') => jd_plain (i:=0) hj (ja_plain (i:=0) (x':=putX xX (some 66) vv) hj.1 (by decide) (by decide) hls hb) (by decide) rfl
     have q12 : xX 12 = u12:=hj.2 hls
     clear hdep ho hup
     dsimp only at hK ⊢
     simp only [q12] at hK ⊢
     refine wpOp_step rfl (fun K2 hK2 => ?_)
     go_simp
     exact hK2 _ _ (hK _ _ (hPl _ _ (Below.refl _ _)) (fun _ _ _ _ h => h) rfl)
    | 1,ho =>
     obtain rfl:=Option.some.inj (show some _ = some oO from ho)
     have hls : ℓ 21 = false:=hup 12 21 (by kernel_rfl)
     have hPl:=fun (vv : Value) w' (hb : Below z.heap.size z w') => jd_plain (i:=1) hj (ja_plain (i:=1) (x':=putX xX (some 67) vv) hj.1 (by decide) (by decide) hls hb) (by decide) rfl
     clear hdep ho hup
     dsimp only at hK ⊢
     refine wpOp_step rfl (fun K2 hK2 => ?_)
     go_simp
     exact hK2 _ _ (hK _ _ (hPl _ _ (Below.refl _ _)) (fun _ _ _ _ h => h) rfl)
    | 2,ho =>
     obtain rfl:=Option.some.inj (show some _ = some oO from ho)
     have hls : ℓ 21 = false:=hup 12 21 (by kernel_rfl)
     have hPl:=fun (vv : Value) w' (hb : Below z.heap.size z w') => jd_plain (i:=2) hj (ja_plain (i:=2) (x':=putX xX (some 68) vv) hj.1 (by decide) (by decide) hls hb) (by decide) rfl
     clear hdep ho hup
     dsimp only at hK ⊢
     refine wpOp_step rfl (fun K2 hK2 => ?_)
     go_simp
     exact hK2 _ _ (hK _ _ (hPl _ _ (Below.refl _ _)) (fun _ _ _ _ h => h) rfl)
    | 3,ho =>
     obtain rfl:=Option.some.inj (show some _ = some oO from ho)
     have q1 : xX 67 = .slice (some ⟨bt,ot,none⟩) T.length tc:=hdep 1 (by kernel_rfl) _ _ rfl rfl
     have q2 : xX 68 = .int .i64 j:=hdep 2 (by kernel_rfl) _ _ rfl rfl
     have hls : ℓ 21 = false:=hup 12 21 (by kernel_rfl)
     have hPl:=fun (vv : Value) w' (hb : Below z.heap.size z w') => jd_plain (i:=3) hj (ja_plain (i:=3) (x':=putX xX (some 69) vv) hj.1 (by decide) (by decide) hls hb) (by decide) rfl
     clear hdep ho hup
     dsimp only at hK ⊢
     simp only [q1,q2] at hK ⊢
     refine wpOp_step rfl (fun K2 hK2 => ?_)
     go_simp
     exact hK2 _ _ (hK _ _ (hPl _ _ (Below.refl _ _)) (fun _ _ _ _ h => h) rfl)
    | 4,ho =>
     obtain rfl:=Option.some.inj (show some _ = some oO from ho)
     have q3 : xX 69 = .pointer (some ⟨bt,ot + j,none⟩):=hdep 3 (by kernel_rfl) _ _ rfl rfl
     have hls : ℓ 21 = false:=hup 12 21 (by kernel_rfl)
     have hPl:=fun (vv : Value) w' (hb : Below z.heap.size z w') => jd_plain (i:=4) hj (ja_plain (i:=4) (x':=putX xX (some 70) vv) hj.1 (by decide) (by decide) hls hb) (by decide) rfl
     have hz:=hj.1.1 (hup 12 20 (by kernel_rfl))
     have y1 : z.cell? ⟨bt,ot + j,none⟩ = some (.int .i64 tk):=((below_step hJ.out hz).cell hbt).trans HQ0.out
     clear hdep ho hup
     dsimp only at hK ⊢
     simp only [q3] at hK ⊢
     refine wpOp_step rfl (fun K2 hK2 => ?_)
     go_simp
     exact hK2 _ _ (hK _ _ (hPl _ _ (Below.refl _ _)) (fun _ _ _ _ h => h) rfl)
    | 5,ho =>
     obtain rfl:=Option.some.inj (show some _ = some oO from ho)
     have hls : ℓ 21 = false:=hup 12 21 (by kernel_rfl)
     have hPl:=fun (vv : Value) w' (hb : Below z.heap.size z w') => jd_plain (i:=5) hj (ja_plain (i:=5) (x':=putX xX (some 71) vv) hj.1 (by decide) (by decide) hls hb) (by decide) rfl
     have hz:=hj.1.1 (hup 12 20 (by kernel_rfl))
     obtain ⟨s0,s1,s2,s3⟩:=(HB3.out.below (below_step hJ.out hz)).four
     clear hdep ho hup
     dsimp only at hK ⊢
     refine wpOp_step rfl (fun K2 hK2 => ?_)
     go_simp
     exact hK2 _ _ (hK _ _ (hPl _ _ (Below.refl _ _)) (fun _ _ _ _ h => h) rfl)
    | 6,ho =>
     obtain rfl:=Option.some.inj (show some _ = some oO from ho)
     have hls : ℓ 21 = false:=hup 12 21 (by kernel_rfl)
     have hPl:=fun (vv : Value) w' (hb : Below z.heap.size z w') => jd_plain (i:=6) hj (ja_plain (i:=6) (x':=putX xX (some 72) vv) hj.1 (by decide) (by decide) hls hb) (by decide) rfl
     clear hdep ho hup
     dsimp only at hK ⊢
     refine wpOp_step rfl (fun K2 hK2 => ?_)
     go_simp
     exact hK2 _ _ (hK _ _ (hPl _ _ (Below.refl _ _)) (fun _ _ _ _ h => h) rfl)
    | 7,ho =>
     obtain rfl:=Option.some.inj (show some _ = some oO from ho)
     have hls : ℓ 21 = false:=hup 12 21 (by kernel_rfl)
     have hPl:=fun (vv : Value) w' (hb : Below z.heap.size z w') => jd_plain (i:=7) hj (ja_plain (i:=7) (x':=putX xX (some 73) vv) hj.1 (by decide) (by decide) hls hb) (by decide) rfl
     clear hdep ho hup
     dsimp only at hK ⊢
     refine wpOp_step rfl (fun K2 hK2 => ?_)
     go_simp
     exact hK2 _ _ (hK _ _ (hPl _ _ (Below.refl _ _)) (fun _ _ _ _ h => h) rfl)
    | 8,ho =>
     obtain rfl:=Option.some.inj (show some _ = some oO from ho)
     have hls : ℓ 21 = false:=hup 12 21 (by kernel_rfl)
     have hPl:=fun (vv : Value) w' (hb : Below z.heap.size z w') => jd_plain (i:=8) hj (ja_plain (i:=8) (x':=putX xX (some 74) vv) hj.1 (by decide) (by decide) hls hb) (by decide) rfl
     clear hdep ho hup
     dsimp only at hK ⊢
     refine wpOp_step rfl (fun K2 hK2 => ?_)
     go_simp
     exact hK2 _ _ (hK _ _ (hPl _ _ (Below.refl _ _)) (fun _ _ _ _ h => h) rfl)
    | 9,ho =>
     obtain rfl:=Option.some.inj (show some _ = some oO from ho)
     have q7 : xX 73 = .slice (some ⟨bt,ot,none⟩) T.length tc:=hdep 7 (by kernel_rfl) _ _ rfl rfl
     have q8 : xX 74 = .int .i64 j:=hdep 8 (by kernel_rfl) _ _ rfl rfl
     have hls : ℓ 21 = false:=hup 12 21 (by kernel_rfl)
     have hPl:=fun (vv : Value) w' (hb : Below z.heap.size z w') => jd_plain (i:=9) hj (ja_plain (i:=9) (x':=putX xX (some 75) vv) hj.1 (by decide) (by decide) hls hb) (by decide) rfl
     clear hdep ho hup
     dsimp only at hK ⊢
     simp only [q7,q8] at hK ⊢
     refine wpOp_step rfl (fun K2 hK2 => ?_)
     go_simp
     exact hK2 _ _ (hK _ _ (hPl _ _ (Below.refl _ _)) (fun _ _ _ _ h => h) rfl)
    | 10,ho =>
     obtain rfl:=Option.some.inj (show some _ = some oO from ho)
     have q9 : xX 75 = .pointer (some ⟨bt,ot + j,none⟩):=hdep 9 (by kernel_rfl) _ _ rfl rfl
     have hls : ℓ 21 = false:=hup 12 21 (by kernel_rfl)
     have hPl:=fun (vv : Value) w' (hb : Below z.heap.size z w') => jd_plain (i:=10) hj (ja_plain (i:=10) (x':=putX xX (some 76) vv) hj.1 (by decide) (by decide) hls hb) (by decide) rfl
     have hz:=hj.1.1 (hup 12 20 (by kernel_rfl))
     have y1 : z.cell? ⟨bt,ot + j,none⟩ = some (.int .i64 tk):=((below_step hJ.out hz).cell hbt).trans HQ0.out
     clear hdep ho hup
     dsimp only at hK ⊢
     simp only [q9] at hK ⊢
     refine wpOp_step rfl (fun K2 hK2 => ?_)
     go_simp
     exact hK2 _ _ (hK _ _ (hPl _ _ (Below.refl _ _)) (fun _ _ _ _ h => h) rfl)
    | 11,ho =>
     obtain rfl:=Option.some.inj (show some _ = some oO from ho)
     have q5 : xX 71 = .agg #[v1,v2,v3,v4]:=hdep 5 (by kernel_rfl) _ _ rfl rfl
     have q6 : xX 72 = vl:=hdep 6 (by kernel_rfl) _ _ rfl rfl
     have q10 : xX 76 = .int .i64 tk:=hdep 10 (by kernel_rfl) _ _ rfl rfl
     have hls : ℓ 21 = false:=hup 12 21 (by kernel_rfl)
     have hPl:=fun (vv : Value) w' (hb : Below z.heap.size z w') => jd_plain (i:=11) hj (ja_plain (i:=11) (x':=putX xX (some 77) vv) hj.1 (by decide) (by decide) hls hb) (by decide) rfl
     have hz:=hj.1.1 (hup 12 20 (by kernel_rfl))
     clear hdep ho hup
     dsimp only at hK ⊢
     simp only [q5,q6,q10] at hK ⊢
     refine wpOp_step rfl (fun K2 hK2 => ?_)
     go_simp
     refine (HSO3.out tk z (below_step (below_step HBW.out hJ.out) hz)).mono ?_
     rintro e z1 ⟨uu,rfl,hrow,hb⟩
     obtain ⟨a9,n9,c9,rfl⟩:=row_form hrow
     refine hK2 _ _ (hK _ _ (hPl _ _ hb) ?_ ⟨a9,n9,c9,rfl,row_base hrow (Nat.le_trans hJ.out.size hz.size)⟩)
     intro jj v' hlj _ h
     match jj,h with
     | 0,h => exact h
     | 1,h => exact h
     | 2,h => exact h
     | 3,h => exact h
     | 4,h => exact h
     | 5,h => exact h
     | 6,h => exact h
     | 7,h => exact h
     | 8,h => exact h
     | 9,h => exact h
     | 10,h => exact h
     | 11,h => obtain ⟨a,n,c,e,r⟩:=h; exact ⟨a,n,c,e,row_later r hb⟩
     | 12,h => exact h
     | 13,h => exact h
     | 14,h => exact h
     | 15,h => exact h
     | 16,h => exact h
     | 17,h => obtain ⟨a,n,c,e,r⟩:=h; exact ⟨a,n,c,e,row_later r hb⟩
     | 18,h => obtain ⟨a,n,c,a2,n2,c2,e,r,r2⟩:=h; exact ⟨a,n,c,a2,n2,c2,e,row_later r hb,row_later r2 hb⟩
     | 19,h => obtain ⟨bb,a,n,c,a2,n2,c2,e,r,r2,ne,x0,x1,x2⟩:=h; exact ⟨bb,a,n,c,a2,n2,c2,e,row_later r hb,row_later r2 hb,ne,(hb.cell (cell_size x0)).trans x0,(hb.cell (cell_size x1)).trans x1,(hb.cell (cell_size x2)).trans x2⟩
     | 20,h => obtain ⟨gg,cap,s,c,e,m,bl⟩:=h; exact ⟨gg,cap,s,c,e,m.later hb,below_step bl hb⟩
     | 21,h => exact h
     | _ + 22,_ => trivial
    | 12,ho =>
     obtain rfl:=Option.some.inj (show some _ = some oO from ho)
     have hls : ℓ 21 = false:=hup 12 21 (by kernel_rfl)
     have hPl:=fun (vv : Value) w' (hb : Below z.heap.size z w') => jd_plain (i:=12) hj (ja_plain (i:=12) (x':=putX xX (some 78) vv) hj.1 (by decide) (by decide) hls hb) (by decide) rfl
     clear hdep ho hup
     dsimp only at hK ⊢
     refine wpOp_step rfl (fun K2 hK2 => ?_)
     go_simp
     exact hK2 _ _ (hK _ _ (hPl _ _ (Below.refl _ _)) (fun _ _ _ _ h => h) rfl)
    | 13,ho =>
     obtain rfl:=Option.some.inj (show some _ = some oO from ho)
     have hls : ℓ 21 = false:=hup 12 21 (by kernel_rfl)
     have hPl:=fun (vv : Value) w' (hb : Below z.heap.size z w') => jd_plain (i:=13) hj (ja_plain (i:=13) (x':=putX xX (some 79) vv) hj.1 (by decide) (by decide) hls hb) (by decide) rfl
     clear hdep ho hup
     dsimp only at hK ⊢
     refine wpOp_step rfl (fun K2 hK2 => ?_)
     go_simp
     exact hK2 _ _ (hK _ _ (hPl _ _ (Below.refl _ _)) (fun _ _ _ _ h => h) rfl)
    | 14,ho =>
     obtain rfl:=Option.some.inj (show some _ = some oO from ho)
     have hls : ℓ 21 = false:=hup 12 21 (by kernel_rfl)
     have hPl:=fun (vv : Value) w' (hb : Below z.heap.size z w') => jd_plain (i:=14) hj (ja_plain (i:=14) (x':=putX xX (some 80) vv) hj.1 (by decide) (by decide) hls hb) (by decide) rfl
     clear hdep ho hup
     dsimp only at hK ⊢
     refine wpOp_step rfl (fun K2 hK2 => ?_)
     go_simp
     exact hK2 _ _ (hK _ _ (hPl _ _ (Below.refl _ _)) (fun _ _ _ _ h => h) rfl)
    | 15,ho =>
     obtain rfl:=Option.some.inj (show some _ = some oO from ho)
     have q13 : xX 79 = .slice (some ⟨bt,ot,none⟩) T.length tc:=hdep 13 (by kernel_rfl) _ _ rfl rfl
     have q14 : xX 80 = .int .i64 j:=hdep 14 (by kernel_rfl) _ _ rfl rfl
     have hls : ℓ 21 = false:=hup 12 21 (by kernel_rfl)
     have hPl:=fun (vv : Value) w' (hb : Below z.heap.size z w') => jd_plain (i:=15) hj (ja_plain (i:=15) (x':=putX xX (some 81) vv) hj.1 (by decide) (by decide) hls hb) (by decide) rfl
     clear hdep ho hup
     dsimp only at hK ⊢
     simp only [q13,q14] at hK ⊢
     refine wpOp_step rfl (fun K2 hK2 => ?_)
     go_simp
     exact hK2 _ _ (hK _ _ (hPl _ _ (Below.refl _ _)) (fun _ _ _ _ h => h) rfl)
    | 16,ho =>
     obtain rfl:=Option.some.inj (show some _ = some oO from ho)
     have q15 : xX 81 = .pointer (some ⟨bt,ot + j,none⟩):=hdep 15 (by kernel_rfl) _ _ rfl rfl
     have hls : ℓ 21 = false:=hup 12 21 (by kernel_rfl)
     have hPl:=fun (vv : Value) w' (hb : Below z.heap.size z w') => jd_plain (i:=16) hj (ja_plain (i:=16) (x':=putX xX (some 82) vv) hj.1 (by decide) (by decide) hls hb) (by decide) rfl
     have hz:=hj.1.1 (hup 12 20 (by kernel_rfl))
     have y1 : z.cell? ⟨bt,ot + j,none⟩ = some (.int .i64 tk):=((below_step hJ.out hz).cell hbt).trans HQ0.out
     clear hdep ho hup
     dsimp only at hK ⊢
     simp only [q15] at hK ⊢
     refine wpOp_step rfl (fun K2 hK2 => ?_)
     go_simp
     exact hK2 _ _ (hK _ _ (hPl _ _ (Below.refl _ _)) (fun _ _ _ _ h => h) rfl)
    | 17,ho =>
     obtain rfl:=Option.some.inj (show some _ = some oO from ho)
     have q12 : xX 78 = .slice al cls.length cl:=hdep 12 (by kernel_rfl) _ _ rfl rfl
     have q16 : xX 82 = .int .i64 tk:=hdep 16 (by kernel_rfl) _ _ rfl rfl
     have hls : ℓ 21 = false:=hup 12 21 (by kernel_rfl)
     have hPl:=fun (vv : Value) w' (hb : Below z.heap.size z w') => jd_plain (i:=17) hj (ja_plain (i:=17) (x':=putX xX (some 83) vv) hj.1 (by decide) (by decide) hls hb) (by decide) rfl
     have hz:=hj.1.1 (hup 12 20 (by kernel_rfl))
     clear hdep ho hup
     dsimp only at hK ⊢
     simp only [q12,q16] at hK ⊢
     refine wpOp_step rfl (fun K2 hK2 => ?_)
     go_simp
     refine (HCD.out tk z (below_step (below_step HBW.out hJ.out) hz)).mono ?_
     rintro e z1 ⟨uu,rfl,hrow,hb⟩
     obtain ⟨a9,n9,c9,rfl⟩:=row_form hrow
     refine hK2 _ _ (hK _ _ (hPl _ _ hb) ?_ ⟨a9,n9,c9,rfl,row_base hrow (Nat.le_trans hJ.out.size hz.size)⟩)
     intro jj v' hlj _ h
     match jj,h with
     | 0,h => exact h
     | 1,h => exact h
     | 2,h => exact h
     | 3,h => exact h
     | 4,h => exact h
     | 5,h => exact h
     | 6,h => exact h
     | 7,h => exact h
     | 8,h => exact h
     | 9,h => exact h
     | 10,h => exact h
     | 11,h => obtain ⟨a,n,c,e,r⟩:=h; exact ⟨a,n,c,e,row_later r hb⟩
     | 12,h => exact h
     | 13,h => exact h
     | 14,h => exact h
     | 15,h => exact h
     | 16,h => exact h
     | 17,h => obtain ⟨a,n,c,e,r⟩:=h; exact ⟨a,n,c,e,row_later r hb⟩
     | 18,h => obtain ⟨a,n,c,a2,n2,c2,e,r,r2⟩:=h; exact ⟨a,n,c,a2,n2,c2,e,row_later r hb,row_later r2 hb⟩
     | 19,h => obtain ⟨bb,a,n,c,a2,n2,c2,e,r,r2,ne,x0,x1,x2⟩:=h; exact ⟨bb,a,n,c,a2,n2,c2,e,row_later r hb,row_later r2 hb,ne,(hb.cell (cell_size x0)).trans x0,(hb.cell (cell_size x1)).trans x1,(hb.cell (cell_size x2)).trans x2⟩
     | 20,h => obtain ⟨gg,cap,s,c,e,m,bl⟩:=h; exact ⟨gg,cap,s,c,e,m.later hb,below_step bl hb⟩
     | 21,h => exact h
     | _ + 22,_ => trivial
    | 18,ho =>
     obtain rfl:=Option.some.inj (show some _ = some oO from ho)
     have q4 : xX 70 = .int .i64 tk:=hdep 4 (by kernel_rfl) _ _ rfl rfl
     have h11 : ∃ (sa : Option Addr) (sn sc : Nat),xX 77 = .slice sa sn sc∧z.ownsRow W3.heap.size 45 2 (.slice sa sn sc) (F tk).length (ppCs (F tk)):=hdep 11 (by kernel_rfl) _ _ rfl rfl
     obtain ⟨sa,sn,sc,q11,r11⟩:=h11
     have h17 : ∃ (ca : Option Addr) (cn cc : Nat),xX 83 = .slice ca cn cc∧z.ownsRow W3.heap.size 45 2 (.slice ca cn cc) ((saidL cls) tk).length (ppCs ((saidL cls) tk)):=hdep 17 (by kernel_rfl) _ _ rfl rfl
     obtain ⟨ca,cn,cc,q17,r17⟩:=h17
     have hls : ℓ 21 = false:=hup 12 21 (by kernel_rfl)
     have hPl:=fun (vv : Value) w' (hb : Below z.heap.size z w') => jd_plain (i:=18) hj (ja_plain (i:=18) (x':=putX xX (some 84) vv) hj.1 (by decide) (by decide) hls hb) (by decide) rfl
     clear hdep ho hup
     dsimp only at hK ⊢
     simp only [q4,q11,q17] at hK ⊢
     refine wpOp_step rfl (fun K2 hK2 => ?_)
     go_simp
     exact hK2 _ _ (hK _ _ (hPl _ _ (Below.refl _ _)) (fun _ _ _ _ h => h) ⟨sa,sn,sc,ca,cn,cc,rfl,r11,r17⟩)
    | 19,ho =>
     obtain rfl:=Option.some.inj (show some _ = some oO from ho)
     have h18 : ∃ (sa : Option Addr) (sn sc : Nat) (ca : Option Addr) (cn cc : Nat),xX 84 = .agg #[.int .i64 tk,.slice sa sn sc,.slice ca cn cc]∧z.ownsRow W3.heap.size 45 2 (.slice sa sn sc) (F tk).length (ppCs (F tk))∧z.ownsRow W3.heap.size 45 2 (.slice ca cn cc) ((saidL cls) tk).length (ppCs ((saidL cls) tk)):=hdep 18 (by kernel_rfl) _ _ rfl rfl
     obtain ⟨sa,sn,sc,ca,cn,cc,q18,r18,t18⟩:=h18
     have hls : ℓ 21 = false:=hup 12 21 (by kernel_rfl)
     have hPl:=fun (vv : Value) w' (hb : Below z.heap.size z w') => jd_plain (i:=19) hj (ja_plain (i:=19) (x':=putX xX (some 85) vv) hj.1 (by decide) (by decide) hls hb) (by decide) rfl
     have hz:=hj.1.1 (hup 12 20 (by kernel_rfl))
     clear hdep ho hup
     dsimp only at hK ⊢
     simp only [q18] at hK ⊢
     refine wpOp_step rfl (fun K2 hK2 => ?_)
     go_simp
     have hb : Below z.heap.size z (z.alloc (.cells #[.int .i64 tk,.slice sa sn sc,.slice ca cn cc] 97)):=(Below.refl _ _).alloc (Nat.le_refl _) _
     have hk:=Blk.new z 97 #[.int .i64 tk,.slice sa sn sc,.slice ca cn cc]
     refine hK2 _ _ (hK _ _ (hPl _ _ hb) ?_ ⟨z.heap.size,sa,sn,sc,ca,cn,cc,rfl,row_later r18 hb,row_later t18 hb,fun e => Nat.lt_irrefl _ ((hM.out.later hz).row.lt _ e).2,hk.cell 0,hk.cell 1,hk.cell 2⟩)
     intro jj v' hlj _ h
     match jj,h with
     | 0,h => exact h
     | 1,h => exact h
     | 2,h => exact h
     | 3,h => exact h
     | 4,h => exact h
     | 5,h => exact h
     | 6,h => exact h
     | 7,h => exact h
     | 8,h => exact h
     | 9,h => exact h
     | 10,h => exact h
     | 11,h => obtain ⟨a,n,c,e,r⟩:=h; exact ⟨a,n,c,e,row_later r hb⟩
     | 12,h => exact h
     | 13,h => exact h
     | 14,h => exact h
     | 15,h => exact h
     | 16,h => exact h
     | 17,h => obtain ⟨a,n,c,e,r⟩:=h; exact ⟨a,n,c,e,row_later r hb⟩
     | 18,h => obtain ⟨a,n,c,a2,n2,c2,e,r,r2⟩:=h; exact ⟨a,n,c,a2,n2,c2,e,row_later r hb,row_later r2 hb⟩
     | 19,h => obtain ⟨bb,a,n,c,a2,n2,c2,e,r,r2,ne,x0,x1,x2⟩:=h; exact ⟨bb,a,n,c,a2,n2,c2,e,row_later r hb,row_later r2 hb,ne,(hb.cell (cell_size x0)).trans x0,(hb.cell (cell_size x1)).trans x1,(hb.cell (cell_size x2)).trans x2⟩
     | 20,h => obtain ⟨gg,cap,s,c,e,m,bl⟩:=h; exact ⟨gg,cap,s,c,e,m.later hb,below_step bl hb⟩
     | 21,h => exact h
     | _ + 22,_ => trivial
    | 20,ho =>
     obtain rfl:=Option.some.inj (show some _ = some oO from ho)
     have q0 : xX 66 = u12:=hdep 0 (by kernel_rfl) _ _ rfl rfl
     have h19 : ∃ (bb : Nat) (sa : Option Addr) (sn sc : Nat) (ca : Option Addr) (cn cc : Nat),xX 85 = .slice (some ⟨bb,0,none⟩) 1 1∧z.ownsRow W3.heap.size 45 2 (.slice sa sn sc) (F tk).length (ppCs (F tk))∧z.ownsRow W3.heap.size 45 2 (.slice ca cn cc) ((saidL cls) tk).length (ppCs ((saidL cls) tk))∧u12.ownBlock ≠ some bb∧z.cell? ⟨bb,0,none⟩ = some (.int .i64 tk)∧z.cell? ⟨bb,1,none⟩ = some (.slice sa sn sc)∧z.cell? ⟨bb,2,none⟩ = some (.slice ca cn cc):=hdep 19 (by kernel_rfl) _ _ rfl rfl
     obtain ⟨bb,sa,sn,sc,ca,cn,cc,q19,r19,t19,ne19,c19,d19,e19⟩:=h19
     have hz:=hj.1.1 hli
     have hls : ℓ 21 = false:=hup 12 21 (by kernel_rfl)
     clear hdep ho hup
     dsimp only at hK ⊢
     simp only [q0,q19] at hK ⊢
     refine wpOp_step rfl (fun K2 hK2 => ?_)
     refine step_append_lies _ rfl _ _ 94 rfl W3.heap.size 97 i0 _ 3 56 Tryz.underlying94 hi0 hz0 hz1 hz2 rfl (by omega) _ _ _ rfl (hM.out.later hz).row ⟨bb,0,none⟩ 1 1 [.int .i64 tk,.slice sa sn sc,.slice ca cn cc] rfl rfl (fun jj u hu => match jj,hu with | 0,hu => by cases hu; exact c19 | 1,hu => by cases hu; exact d19 | 2,hu => by cases hu; exact e19 | _ + 3,hu => by cases hu) (by simp [Value.oneCell']) (by omega) (by unfold maxLen; omega) (by omega) (Nat.le_trans hJ.out.size hz.size) z.heap.size rfl ?_
     intro gg cap w3 hown hgrow hat hlt
     refine hK2 _ _ (hK _ _ (jd_plain (i:=20) hj (ja_mid (by decide) hls) (by decide) rfl) ?_ ⟨gg,cap,_,_,rfl,(hM.out.later hz).next r19 t19 hgrow rfl hown,(below_step hJ.out hz).grown hgrow (Nat.le_trans hJ.out.size hz.size) (fun _ e => row_ge (hM.out.later hz).row e)⟩)
     intro jj v' hlj _ h
     match jj,h with
     | 0,h => exact h
     | 1,h => exact h
     | 2,h => exact h
     | 3,h => exact h
     | 4,h => exact h
     | 5,h => exact h
     | 6,h => exact h
     | 7,h => exact h
     | 8,h => exact h
     | 9,h => exact h
     | 10,h => exact h
     | 11,h => obtain ⟨a,n,c,e,r⟩:=h; exact ⟨a,n,c,e,r.kept hgrow (row_apart r (hM.out.later hz).row (by decide))⟩
     | 12,h => exact h
     | 13,h => exact h
     | 14,h => exact h
     | 15,h => exact h
     | 16,h => exact h
     | 17,h => obtain ⟨a,n,c,e,r⟩:=h; exact ⟨a,n,c,e,r.kept hgrow (row_apart r (hM.out.later hz).row (by decide))⟩
     | 18,h => obtain ⟨a,n,c,a2,n2,c2,e,r,r2⟩:=h; exact ⟨a,n,c,a2,n2,c2,e,r.kept hgrow (row_apart r (hM.out.later hz).row (by decide)),r2.kept hgrow (row_apart r2 (hM.out.later hz).row (by decide))⟩
     | 19,h => obtain ⟨bb,a,n,c,a2,n2,c2,e,r,r2,ne,x0,x1,x2⟩:=h; exact ⟨bb,a,n,c,a2,n2,c2,e,r.kept hgrow (row_apart r (hM.out.later hz).row (by decide)),r2.kept hgrow (row_apart r2 (hM.out.later hz).row (by decide)),ne,hgrow.cell x0 (fun q => ne q.symm),hgrow.cell x1 (fun q => ne q.symm),hgrow.cell x2 (fun q => ne q.symm)⟩
     | 20,h => rw [hli] at hlj; cases hlj
     | 21,h => exact h
     | _ + 22,_ => trivial
    | 21,ho =>
     obtain rfl:=Option.some.inj (show some _ = some oO from ho)
     have h20 : ∃ (gg cap : Nat) (s c : Value),xX 86 = .slice (some ⟨gg,0,none⟩) (MM.length + 1) cap∧MoI W3.heap.size F (saidL cls) (MM ++ [(tk,s,c)]) (.slice (some ⟨gg,0,none⟩) (MM.length + 1) cap) z∧Below W3.heap.size W3 z:=hdep 20 (by kernel_rfl) _ _ rfl rfl
     obtain ⟨gg,cap,s,c,q20,m20,b20⟩:=h20
     clear hdep ho hup
     dsimp only at hK ⊢
     simp only [q20] at hK ⊢
     refine wpOp_step rfl (fun K2 hK2 => ?_)
     go_simp
     exact hK2 _ _ (hK _ _ (jd_last (ja_last (.inr (hdl 1 20 (by kernel_rfl))) ⟨gg,cap,s,c,rfl,m20,b20⟩)) (fun _ _ _ hp _ => absurd hp (lastB_spec (by kernel_rfl) hdl)) trivial)
    | n + 22,ho => exact absurd (Array.getElem?_eq_some_iff.1 ho).1 (by simp)
   case done =>
    intro ℓ xX z hall hj
    have hf:=hj.1.2 (hall 21 (of_decide_eq_true (by kernel_rfl)))
    obtain ⟨gg,cap,s,c,qd,hm9,hb9⟩:=hf
    have HM9:=Lib.hid hm9
    have HB9:=Lib.hid hb9
    have HN9:=Lib.hid (HNX.out s c)
    dsimp only
    simp only [qd]
    clear hj qd hm9 hb9
    go_wp2
    go_roundw
    case rel => exact ⟨j + 1,_,by omega,by go_num,HN9,HM9,HB9⟩
    case measure => simp [intOf]; omega
  ·have hi3 : ¬ (j : Int) < (T.length : Int):=by omega
   have hje : j = T.length:=by omega
   rw [hje,List.take_length] at hN
   have hml : MM.length ≤ 1000:=by rw [← List.length_map (f:=(·.1)),hN.out]; exact hlT
   have HNT:=Lib.hid (hN.out.trans HTT.out.symm)
   obtain ⟨s0,s1,s2,s3⟩:=(HB3.out.below hJ.out).four
   clear hje hN
   go_wp2_with fail
   refine (HFA3.out MM _ _ _ (below_step HBW.out hJ.out) hM.out hml HNT.out).mono ?_
   rintro e w5 ⟨vf,m,c,rfl,hrow,hfa,hb5⟩
   have HR5:=Lib.hid (row_base hrow (Nat.le_trans HBW.out.size hJ.out.size))
   have HF5:=Lib.hid hfa
   have HB5:=Lib.hid (below_step (below_step HBW.out hJ.out) hb5)
   clear hrow hfa hb5
   go_wp2
   go_ret2
   exact ⟨_,m,c,rfl,HR5.out,.inr ⟨HZ.out,HF5.out⟩,HB5.out⟩
end Go.Proofs.YthhfmppealmblaaGreatDoor
