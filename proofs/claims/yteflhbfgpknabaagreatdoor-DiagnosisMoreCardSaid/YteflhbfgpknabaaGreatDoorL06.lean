/-
  A part of the proof: DD.
-/
import Derived.Test.YteflhbfgpknabaaGreatDoorL04
import Derived.Test.YteflhbfgpknabaaGreatDoorL05
import Derived.Deep.QuietTactic
import Derived.BigQuiet
set_option maxRecDepth 100000
set_option maxHeartbeats 12800000
namespace Go.Proofs.YteflhbfgpknabaaGreatDoor
open Go.Lib (hid)
open Go.RowKit
theorem rname_is (s:ByteArray) (b:Bool) (h:nameB (L s)=b) (w:World) (hs:s.size≤maxLen) :
  Calls Tryz.prog 103 #[.string s] w fun e w'=>e = .returned (.bool b)∧w=w' :=
 (rname_any s w hs).mono fun _ _ ⟨he,hw⟩=>⟨by rw [he,h],hw⟩
theorem rindex_any (i n:Int) (w:World):Calls Tryz.prog 106 #[.int .i64 i,.int .i64 n] w fun e w'=>e = .returned (.bool (decide (0≤i∧i<n)))∧w=w':=by
 by_cases h1:0≤i
 ·by_cases h2:i<n
  ·have h3:decide (0≤i∧i<n)=true:=by simp [h1,h2]
   rw [h3]
   go_enter Tryz.func106,Tryz.ntmps106
   go_wp2
   go_ret
   exact ⟨rfl,rfl⟩
  ·have h3:decide (0≤i∧i<n)=false:=by simp [h2]
   rw [h3]
   go_enter Tryz.func106,Tryz.ntmps106
   go_wp2
   go_ret
   exact ⟨rfl,rfl⟩
 ·have h3:decide (0≤i∧i<n)=false:=by simp [h1]
  rw [h3]
  go_enter Tryz.func106,Tryz.ntmps106
  go_wp2
  go_ret
  exact ⟨rfl,rfl⟩
theorem rnote_any (n:Int) (w:World):Calls Tryz.prog 104 #[.int .i64 n] w fun e w'=>e = .returned (.bool (decide (0≤n∧n≤127)))∧w=w':=by
 by_cases h1:0≤n
 ·by_cases h2:n≤127
  ·have h3:decide (0≤n∧n≤127)=true:=by simp [h1,h2]
   rw [h3]
   go_enter Tryz.func104,Tryz.ntmps104
   go_wp2
   go_ret
   exact ⟨rfl,rfl⟩
  ·have h3:decide (0≤n∧n≤127)=false:=by simp [h2]
   rw [h3]
   go_enter Tryz.func104,Tryz.ntmps104
   go_wp2
   go_ret
   exact ⟨rfl,rfl⟩
 ·have h3:decide (0≤n∧n≤127)=false:=by simp [h1]
  rw [h3]
  go_enter Tryz.func104,Tryz.ntmps104
  go_wp2
  go_ret
  exact ⟨rfl,rfl⟩
theorem rnote_is (n:Int) (b:Bool) (h:decide (0≤n∧n≤127)=b) (w:World):Calls Tryz.prog 104 #[.int .i64 n] w fun e w'=>e = .returned (.bool b)∧w=w' :=
 (rnote_any n w).mono fun _ _ ⟨he,hw⟩=>⟨by rw [he,h],hw⟩
theorem rindex_is (i n:Int) (b:Bool) (h:decide (0≤i∧i<n)=b) (w:World):Calls Tryz.prog 106 #[.int .i64 i,.int .i64 n] w fun e w'=>e = .returned (.bool b)∧w=w' :=
 (rindex_any i n w).mono fun _ _ ⟨he,hw⟩=>⟨by rw [he,h],hw⟩
theorem rhas_any (nm:ByteArray) (kd nu de lo cn n:Int) (w:World) (hr : -9223372036854775808≤lo+cn∧lo+cn≤9223372036854775807):Calls Tryz.prog 107 #[.agg #[.string nm,.int .i64 kd,.int .i64 nu,.int .i64 de,.int .i64 lo,.int .i64 cn],.int .i64 n] w fun e w'=>e = .returned (.bool (decide (lo≤n∧n<lo+cn)))∧Below w.heap.size w w':=by
 have hb0:Below w.heap.size w (w.alloc (.cells #[.string nm,.int .i64 kd,.int .i64 nu,.int .i64 de,.int .i64 lo,.int .i64 cn] 63)):=(Below.refl _ _).alloc (Nat.le_refl _) _
 by_cases h1:lo≤n
 ·by_cases h2:n<lo+cn
  ·have h3:decide (lo≤n∧n<lo+cn)=true:=by simp [h1,h2]
   rw [h3]
   go_enter Tryz.func107,Tryz.ntmps107
   go_wp2
   go_ret
   exact ⟨rfl,hb0⟩
  ·have h3:decide (lo≤n∧n<lo+cn)=false:=by simp [h2]
   rw [h3]
   go_enter Tryz.func107,Tryz.ntmps107
   go_wp2
   go_ret
   exact ⟨rfl,hb0⟩
 ·have h3:decide (lo≤n∧n<lo+cn)=false:=by simp [h1]
  rw [h3]
  go_enter Tryz.func107,Tryz.ntmps107
  go_wp2
  go_ret
  exact ⟨rfl,hb0⟩
theorem beq_L {s t:ByteArray} (h:L s=L t):(s.toList==t.toList)=true:=beq_iff_eq.2 (by rw [Lib.toList_data,Lib.toList_data];exact h)
theorem bne_L {s t:ByteArray} (h:L s≠L t):(s.toList==t.toList)=false:=beq_eq_false_iff_ne.2 (by rw [Lib.toList_data,Lib.toList_data];exact h)
structure RSt (w:World) (v1 v2 v3 v4:Value) (T:TypeId) (cs:Array Value) (W:World):Prop where
 spec:Blk W w.heap.size 27 #[v1,v2,v3,v4]
 el:Blk W (w.heap.size+1) T cs
 low:Below w.heap.size w W
theorem RSt.new (w:World) (v1 v2 v3 v4:Value) (T:TypeId) (cs:Array Value):RSt w v1 v2 v3 v4 T cs ((w.alloc (.cells #[v1,v2,v3,v4] 27)).alloc (.cells cs T)) where
 spec:=(Blk.new w _ _).alloc _
 el:=by
  have:=Blk.new (w.alloc (.cells #[v1,v2,v3,v4] 27)) T cs
  rwa [World.size_alloc] at this
 low:=((Below.refl _ w).alloc (Nat.le_refl _) _).alloc (by simp) _
theorem RSt.below {w W W':World} {v1 v2 v3 v4:Value} {T:TypeId} {cs:Array Value} (h:RSt w v1 v2 v3 v4 T cs W) (hb:Below W.heap.size W W'):RSt w v1 v2 v3 v4 T cs W':=⟨h.spec.below hb,h.el.below hb,below_step h.low hb⟩
theorem RSt.drawn {w W:World} {v1 v2 v3 v4:Value} {T:TypeId} {cs:Array Value} (h:RSt w v1 v2 v3 v4 T cs W) (n:Nat):RSt w v1 v2 v3 v4 T cs (W.drewN n):=h.below (below_drewN (Below.refl _ _) _)
theorem rdivision_any (v1 v2 v3 v4:Value) (S:Sp) (ok:SpOk S) (i:Nat) (hi:i<S.ds.length) (f:Nat→Value) (w:World) (hsp:SpRd w v1 v2 v3 v4 f S) :
  Calls Tryz.prog 59 #[.agg #[v1,v2,v3,v4],.int .i64 i] w fun e w'=>e = .returned (.int .i64 (errD S i))∧Below w.heap.size w w':=by
 have hz:=ok.dn _ (List.getElem_mem hi)
 have hl:=ok.d
 obtain ⟨b,o,c,ev,hlt,e0,e1,e2⟩:=hsp.dAt i hi
 have HSP:=hid hsp
 subst ev
 cases hnm:nameB (L S.ds[i].name) with
 | false =>
  have HE:=hid (errD_form hi hnm)
  have CN:=hid (fun W=>rname_is S.ds[i].name false hnm W (by unfold maxLen;omega))
  clear hnm hz hl
  go_enter Tryz.func59,Tryz.ntmps59
  go_wp2_with fail
  refine (CN.out _).mono ?_
  rintro e w' ⟨rfl,rfl⟩
  go_wp2
  go_ret
  exact ⟨by rw [HE.out];rfl,((Below.refl _ w).alloc (Nat.le_refl _) _).alloc (by simp) _⟩
 | true =>
  have HN:=hid hnm
  have CN:=hid (fun W=>rname_is S.ds[i].name true hnm W (by unfold maxLen;omega))
  have C1:=hid (fun W=>rnote_any S.ds[i].lo W)
  have C2:=hid (fun W=>rnote_any S.ds[i].hi W)
  clear hnm hz
  have hst0:=RSt.new w (.slice (some ⟨b,o,none⟩) S.ds.length c) v2 v3 v4 109 #[.string S.ds[i].name,.int .i64 S.ds[i].lo,.int .i64 S.ds[i].hi]
  have HS0:=hid hst0
  clear hst0
  go_enter Tryz.func59,Tryz.ntmps59
  go_wp2_with fail
  refine (CN.out _).mono ?_
  rintro e w' ⟨rfl,rfl⟩
  go_wp2
  go_loopw [6] (fun x wr=>∃ k:Nat,k≤i∧x = .int .i64 k∧Hid (∀ j (hj:j<k) (h:j<S.ds.length),L S.ds[j].name≠L S.ds[i].name)∧Hid (RSt w (.slice (some ⟨b,o,none⟩) S.ds.length c) v2 v3 v4 109 #[.string S.ds[i].name,.int .i64 S.ds[i].lo,.int .i64 S.ds[i].hi] wr)) (fun x _=>i-(intOf x).toNat)
  case atStart=>exact ⟨0,by omega,rfl,hid (fun j hj=>by omega),HS0⟩
  obtain ⟨k,hk,rfl,hE,hS⟩:=hrel
  obtain ⟨s0,s1,s2,s3⟩:=hS.out.spec.four
  have y0:=hS.out.el.cell 0
  have y1:=hS.out.el.cell 1
  have y2:=hS.out.el.cell 2
  by_cases hlt2:k<i
  ·obtain ⟨b',o',c',ev',hbl,d0,_,_⟩:=(HSP.out.later hS.out.low).dAt k (by omega)
   cases ev'
   have hk2:((k:Int)<i):=by omega
   by_cases hq:L S.ds[k].name=L S.ds[i].name
   ·have HE:=hid (errD_twice hi HN.out hlt2 hq)
    have HB:=hid (beq_L hq)
    clear hq
    go_wp2_with fail
    go_quiet (fail)
    rw [HB.out]
    go_wp2
    go_ret
    exact ⟨by rw [HE.out];rfl,(hS.out.drawn nq).low⟩
   ·have hne:=hid hq
    have HB:=hid (bne_L hq)
    clear hq
    go_wp2_with fail
    go_quiet (fail)
    rw [HB.out]
    go_wp2
    go_roundw
    case rel=>exact ⟨k+1,by omega,by go_num,hid (fun j hj h=>by rcases Nat.lt_succ_iff_lt_or_eq.1 hj with h' | h';exact hE.out j h' h;subst h';exact hne.out),hid (hS.out.drawn nq)⟩
    case measure=>simp [intOf];omega
  ·have hke:k=i:=by omega
   have HE:=hid (errD_next hi HN.out (fun j hj=>hE.out j (by omega) (by omega)))
   have hk2:¬ ((k:Int)<i):=by omega
   have HL:=hid hS.out.low
   obtain ⟨lo,hlo⟩:∃ x,x=S.ds[i].lo:=⟨_,rfl⟩
   obtain ⟨hh,hhh⟩:∃ x,x=S.ds[i].hi:=⟨_,rfl⟩
   have hdv:dvE S.ds[i]=if 0≤lo∧lo≤127∧lo≤hh∧hh≤127∧hh-lo≤60 then 0 else 7:=by unfold dvE;rw [hlo,hhh]
   have HDV:=hid hdv
   clear hdv
   replace y1:wr.cell? ⟨w.heap.size+1,1,none⟩=some (.int .i64 lo):=by rw [hlo];exact y1
   replace y2:wr.cell? ⟨w.heap.size+1,2,none⟩=some (.int .i64 hh):=by rw [hhh];exact y2
   rw [← hlo] at C1
   rw [← hhh] at C2
   clear hlo hhh
   by_cases h1:0≤lo∧lo≤127
   ·have B1:=hid (show decide (0≤lo∧lo≤127)=true from decide_eq_true h1)
    rw [B1.out] at C1
    by_cases h2:0≤hh∧hh≤127
    ·have B2:=hid (show decide (0≤hh∧hh≤127)=true from decide_eq_true h2)
     rw [B2.out] at C2
     obtain ⟨h1a,h1b⟩:=h1
     obtain ⟨h2a,h2b⟩:=h2
     by_cases h3:lo≤hh
     ·by_cases h4:hh-lo+1≤61
      ·have HP:=hid (show dvE S.ds[i]=0 by rw [HDV.out,if_pos (by omega)])
       go_wp2_with (first | (go_at_call 104;with_reducible refine (C1.out _).mono ?_;rintro e w' ⟨rfl,rfl⟩) | (go_at_call 104;with_reducible refine (C2.out _).mono ?_;rintro e w' ⟨rfl,rfl⟩))
       go_ret
       exact ⟨by rw [HE.out,HP.out];rfl,HL.out⟩
      ·have HP:=hid (show dvE S.ds[i]=7 by rw [HDV.out,if_neg (by omega)])
       go_wp2_with (first | (go_at_call 104;with_reducible refine (C1.out _).mono ?_;rintro e w' ⟨rfl,rfl⟩) | (go_at_call 104;with_reducible refine (C2.out _).mono ?_;rintro e w' ⟨rfl,rfl⟩))
       go_ret
       exact ⟨by rw [HE.out,HP.out];rfl,HL.out⟩
     ·have HP:=hid (show dvE S.ds[i]=7 by rw [HDV.out,if_neg (by omega)])
      go_wp2_with (first | (go_at_call 104;with_reducible refine (C1.out _).mono ?_;rintro e w' ⟨rfl,rfl⟩) | (go_at_call 104;with_reducible refine (C2.out _).mono ?_;rintro e w' ⟨rfl,rfl⟩))
      go_ret
      exact ⟨by rw [HE.out,HP.out];rfl,HL.out⟩
    ·have B2:=hid (show decide (0≤hh∧hh≤127)=false from decide_eq_false h2)
     rw [B2.out] at C2
     have HP:=hid (show dvE S.ds[i]=7 by rw [HDV.out,if_neg (by omega)])
     clear h1 h2
     go_wp2_with (first | (go_at_call 104;with_reducible refine (C1.out _).mono ?_;rintro e w' ⟨rfl,rfl⟩) | (go_at_call 104;with_reducible refine (C2.out _).mono ?_;rintro e w' ⟨rfl,rfl⟩))
     go_ret
     exact ⟨by rw [HE.out,HP.out];rfl,HL.out⟩
   ·have B1:=hid (show decide (0≤lo∧lo≤127)=false from decide_eq_false h1)
    rw [B1.out] at C1
    have HP:=hid (show dvE S.ds[i]=7 by rw [HDV.out,if_neg (by omega)])
    clear h1
    go_wp2_with (first | (go_at_call 104;with_reducible refine (C1.out _).mono ?_;rintro e w' ⟨rfl,rfl⟩) | (go_at_call 104;with_reducible refine (C2.out _).mono ?_;rintro e w' ⟨rfl,rfl⟩))
    go_ret
    exact ⟨by rw [HE.out,HP.out];rfl,HL.out⟩
theorem rvalid_is (n d:Int) (b:Bool) (h:decide (FeetOk n d)=b) (w:World) :
  Calls Tryz.prog 105 #[.agg #[.int .i64 n,.int .i64 d]] w fun e w'=>e = .returned (.bool b)∧Below w.heap.size w w' :=
 (rvalid_any n d w).mono fun _ _ ⟨he,hw⟩=>⟨by rw [he,← h];congr 2,hw⟩
theorem rrank_any (v1 v2 v3 v4:Value) (S:Sp) (ok:SpOk S) (i:Nat) (hi:i<S.rs.length) (f:Nat→Value) (w:World) (hsp:SpRd w v1 v2 v3 v4 f S) :
  Calls Tryz.prog 60 #[.agg #[v1,v2,v3,v4],.int .i64 i] w fun e w'=>e = .returned (.int .i64 (errR S i))∧Below w.heap.size w w':=by
 have hz:=ok.rn _ (List.getElem_mem hi)
 have hl:=ok.r
 obtain ⟨b,o,c,ev,hlt,e0,e1,e2,e3,e4,e5⟩:=hsp.rAt i hi
 have HSP:=hid hsp
 subst ev
 cases hnm:nameB (L S.rs[i].name) with
 | false =>
  have HE:=hid (errR_form hi hnm)
  have CN:=hid (fun W=>rname_is S.rs[i].name false hnm W (by unfold maxLen;omega))
  clear hnm hz hl
  go_enter Tryz.func60,Tryz.ntmps60
  go_wp2_with fail
  refine (CN.out _).mono ?_
  rintro e w' ⟨rfl,rfl⟩
  go_wp2
  go_ret
  exact ⟨by rw [HE.out];rfl,((Below.refl _ w).alloc (Nat.le_refl _) _).alloc (by simp) _⟩
 | true =>
  have HN:=hid hnm
  have CN:=hid (fun W=>rname_is S.rs[i].name true hnm W (by unfold maxLen;omega))
  clear hnm hz
  have hst0:=RSt.new w v1 (.slice (some ⟨b,o,none⟩) S.rs.length c) v3 v4 63 #[.string S.rs[i].name,.int .i64 S.rs[i].kind,.int .i64 S.rs[i].num,.int .i64 S.rs[i].den,.int .i64 S.rs[i].low,.int .i64 S.rs[i].cnt]
  have HS0:=hid hst0
  clear hst0
  go_enter Tryz.func60,Tryz.ntmps60
  go_wp2_with fail
  refine (CN.out _).mono ?_
  rintro e w' ⟨rfl,rfl⟩
  go_wp2
  go_loopw [6] (fun x wr=>∃ k:Nat,k≤i∧x = .int .i64 k∧Hid (∀ j (hj:j<k) (h:j<S.rs.length),L S.rs[j].name≠L S.rs[i].name)∧Hid (RSt w v1 (.slice (some ⟨b,o,none⟩) S.rs.length c) v3 v4 63 #[.string S.rs[i].name,.int .i64 S.rs[i].kind,.int .i64 S.rs[i].num,.int .i64 S.rs[i].den,.int .i64 S.rs[i].low,.int .i64 S.rs[i].cnt] wr)) (fun x _=>i-(intOf x).toNat)
  case atStart=>exact ⟨0,by omega,rfl,hid (fun j hj=>by omega),HS0⟩
  obtain ⟨k,hk,rfl,hE,hS⟩:=hrel
  obtain ⟨s0,s1,s2,s3⟩:=hS.out.spec.four
  have y0:=hS.out.el.cell 0
  by_cases hlt2:k<i
  ·obtain ⟨b',o',c',ev',hbl,d0,_,_,_,_,_⟩:=(HSP.out.later hS.out.low).rAt k (by omega)
   cases ev'
   have hk2:((k:Int)<i):=by omega
   by_cases hq:L S.rs[k].name=L S.rs[i].name
   ·have HE:=hid (errR_twice hi HN.out hlt2 hq)
    have HB:=hid (beq_L hq)
    clear hq
    go_wp2_with fail
    go_quiet (fail)
    rw [HB.out]
    go_wp2
    go_ret
    exact ⟨by rw [HE.out];rfl,(hS.out.drawn nq).low⟩
   ·have hne:=hid hq
    have HB:=hid (bne_L hq)
    clear hq
    go_wp2_with fail
    go_quiet (fail)
    rw [HB.out]
    go_wp2
    go_roundw
    case rel=>exact ⟨k+1,by omega,by go_num,hid (fun j hj h=>by rcases Nat.lt_succ_iff_lt_or_eq.1 hj with h' | h';exact hE.out j h' h;subst h';exact hne.out),hid (hS.out.drawn nq)⟩
    case measure=>simp [intOf];omega
  ·have hke:k=i:=by omega
   have HE:=hid (errR_next hi HN.out (fun j hj=>hE.out j (by omega) (by omega)))
   have hk2:¬ ((k:Int)<i):=by omega
   have HL:=hid hS.out.low
   obtain ⟨kd,hkd⟩:∃ x,x=S.rs[i].kind:=⟨_,rfl⟩
   obtain ⟨nu,hnu⟩:∃ x,x=S.rs[i].num:=⟨_,rfl⟩
   obtain ⟨de,hde⟩:∃ x,x=S.rs[i].den:=⟨_,rfl⟩
   obtain ⟨lo,hlo⟩:∃ x,x=S.rs[i].low:=⟨_,rfl⟩
   obtain ⟨cn,hcn⟩:∃ x,x=S.rs[i].cnt:=⟨_,rfl⟩
   have HDV:=hid (show rkE S.rs[i]=if 1≤kd∧kd≤4∧FeetOk nu de then (if 1≤cn∧cn≤97∧0≤lo∧lo+cn≤128 then 0 else 7) else 2 by unfold rkE;rw [hkd,hnu,hde,hlo,hcn])
   have HEL:=hid hS.out.el
   have y1:wr.cell? ⟨w.heap.size+1,1,none⟩=some (.int .i64 kd):=by rw [hkd];exact HEL.out.cell 1
   have y2:wr.cell? ⟨w.heap.size+1,2,none⟩=some (.int .i64 nu):=by rw [hnu];exact HEL.out.cell 2
   have y3:wr.cell? ⟨w.heap.size+1,3,none⟩=some (.int .i64 de):=by rw [hde];exact HEL.out.cell 3
   have HY:=hid (show ∀ W,Below wr.heap.size wr W→W.cell? ⟨w.heap.size+1,4,none⟩=some (.int .i64 lo)∧W.cell? ⟨w.heap.size+1,5,none⟩=some (.int .i64 cn) by
    intro W hW
    have k2:=HEL.out.below hW
    rw [hlo,hcn]
    exact ⟨k2.cell 4,k2.cell 5⟩)
   clear hkd hnu hde hlo hcn
   by_cases h1:1≤kd∧kd≤4
   ·by_cases h2:FeetOk nu de
    ·have CV:=hid (fun W=>rvalid_is nu de true (decide_eq_true h2) W)
     obtain ⟨h1a,h1b⟩:=h1
     have HF:=hid h2
     clear h2
     by_cases h3:1≤cn∧cn≤97
     ·obtain ⟨h3a,h3b⟩:=h3
      by_cases h4:0≤lo∧lo≤127
      ·have C1:=hid (fun W=>rnote_is lo true (decide_eq_true h4) W)
       obtain ⟨h4a,h4b⟩:=h4
       by_cases h5:0≤lo+cn-1∧lo+cn-1≤127
       ·have C2:=hid (fun W=>rnote_is (lo+cn-1) true (decide_eq_true h5) W)
        have HP:=hid (show rkE S.rs[i]=0 by rw [HDV.out,if_pos ⟨h1a,h1b,HF.out⟩,if_pos (by omega)])
        go_wp2_with (first | (go_at_call 105;with_reducible refine (CV.out _).mono ?_;rintro e w2 ⟨rfl,hb2⟩;have HL2:=below_step HL.out hb2;obtain ⟨z4,z5⟩:=HY.out _ hb2) | (go_at_call 104;with_reducible refine (C1.out _).mono ?_;rintro e w' ⟨rfl,rfl⟩) | (go_at_call 104;with_reducible refine (C2.out _).mono ?_;rintro e w' ⟨rfl,rfl⟩))
        go_ret
        exact ⟨by rw [HE.out,HP.out];rfl,HL2⟩
       ·have C2:=hid (fun W=>rnote_is (lo+cn-1) false (decide_eq_false h5) W)
        have HP:=hid (show rkE S.rs[i]=7 by rw [HDV.out,if_pos ⟨h1a,h1b,HF.out⟩,if_neg (by omega)])
        go_wp2_with (first | (go_at_call 105;with_reducible refine (CV.out _).mono ?_;rintro e w2 ⟨rfl,hb2⟩;have HL2:=below_step HL.out hb2;obtain ⟨z4,z5⟩:=HY.out _ hb2) | (go_at_call 104;with_reducible refine (C1.out _).mono ?_;rintro e w' ⟨rfl,rfl⟩) | (go_at_call 104;with_reducible refine (C2.out _).mono ?_;rintro e w' ⟨rfl,rfl⟩))
        go_ret
        exact ⟨by rw [HE.out,HP.out];rfl,HL2⟩
      ·have C1:=hid (fun W=>rnote_is lo false (decide_eq_false h4) W)
       have HP:=hid (show rkE S.rs[i]=7 by rw [HDV.out,if_pos ⟨h1a,h1b,HF.out⟩,if_neg (by omega)])
       go_wp2_with (first | (go_at_call 105;with_reducible refine (CV.out _).mono ?_;rintro e w2 ⟨rfl,hb2⟩;have HL2:=below_step HL.out hb2;obtain ⟨z4,z5⟩:=HY.out _ hb2) | (go_at_call 104;with_reducible refine (C1.out _).mono ?_;rintro e w' ⟨rfl,rfl⟩) | (go_at_call 104;with_reducible refine (C2.out _).mono ?_;rintro e w' ⟨rfl,rfl⟩))
       go_ret
       exact ⟨by rw [HE.out,HP.out];rfl,HL2⟩
     ·have h3p:=hid (show rkE S.rs[i]=7 by rw [HDV.out,if_pos ⟨h1a,h1b,HF.out⟩,if_neg (by omega)])
      have h3':cn<1∨1≤cn∧97<cn:=by omega
      clear h3
      rcases h3' with h3 | ⟨h3,h3b⟩
      ·have HP:=h3p
       go_wp2_with (first | (go_at_call 105;with_reducible refine (CV.out _).mono ?_;rintro e w2 ⟨rfl,hb2⟩;have HL2:=below_step HL.out hb2;obtain ⟨z4,z5⟩:=HY.out _ hb2) | (go_at_call 104;with_reducible refine (CV.out _).mono ?_;rintro e w' ⟨rfl,rfl⟩) | (go_at_call 104;with_reducible refine (C2.out _).mono ?_;rintro e w' ⟨rfl,rfl⟩))
       go_ret
       exact ⟨by rw [HE.out,HP.out];rfl,HL2⟩
      ·have HP:=h3p
       go_wp2_with (first | (go_at_call 105;with_reducible refine (CV.out _).mono ?_;rintro e w2 ⟨rfl,hb2⟩;have HL2:=below_step HL.out hb2;obtain ⟨z4,z5⟩:=HY.out _ hb2) | (go_at_call 104;with_reducible refine (CV.out _).mono ?_;rintro e w' ⟨rfl,rfl⟩) | (go_at_call 104;with_reducible refine (C2.out _).mono ?_;rintro e w' ⟨rfl,rfl⟩))
       go_ret
       exact ⟨by rw [HE.out,HP.out];rfl,HL2⟩
    ·have CV:=hid (fun W=>rvalid_is nu de false (decide_eq_false h2) W)
     obtain ⟨h1a,h1b⟩:=h1
     have HP:=hid (show rkE S.rs[i]=2 by rw [HDV.out,if_neg (fun h=>h2 h.2.2)])
     clear h2
     go_wp2_with (first | (go_at_call 105;with_reducible refine (CV.out _).mono ?_;rintro e w2 ⟨rfl,hb2⟩;have HL2:=below_step HL.out hb2;obtain ⟨z4,z5⟩:=HY.out _ hb2) | (go_at_call 104;with_reducible refine (C1.out _).mono ?_;rintro e w' ⟨rfl,rfl⟩) | (go_at_call 104;with_reducible refine (C2.out _).mono ?_;rintro e w' ⟨rfl,rfl⟩))
     go_ret
     exact ⟨by rw [HE.out,HP.out];rfl,HL2⟩
   ·have HP:=hid (show rkE S.rs[i]=2 by rw [HDV.out,if_neg (fun h=>h1 ⟨h.1,h.2.1⟩)])
    have h1':kd<1∨1≤kd∧4<kd:=by omega
    clear h1
    rcases h1' with h1 | ⟨h1,h1b⟩
    ·go_wp2
     go_ret
     exact ⟨by rw [HE.out,HP.out];rfl,HL.out⟩
    ·go_wp2
     go_ret
     exact ⟨by rw [HE.out,HP.out];rfl,HL.out⟩
theorem rstop_any (v1 v2 v3 v4:Value) (S:Sp) (ok:SpOk S) (i:Nat) (hi:i<S.ss.length) (f:Nat→Value) (w:World) (hsp:SpRd w v1 v2 v3 v4 f S) :
  Calls Tryz.prog 61 #[.agg #[v1,v2,v3,v4],.int .i64 i] w fun e w'=>e = .returned (.int .i64 (errS S i))∧Below w.heap.size w w':=by
 have hz:=ok.sn _ (List.getElem_mem hi)
 have hl:=ok.s
 have hpl:=ok.sp _ (List.getElem_mem hi)
 obtain ⟨a1,c1,ev1⟩:=hsp.forms.1
 obtain ⟨b,o,c,ev,hlt,e0,e1,e2,e3,e4⟩:=hsp.sAt i hi
 obtain ⟨ap,cp,efp⟩:=(hsp.p i hi).form
 rw [List.length_map] at efp
 rw [efp] at e4
 have HSP:=hid hsp
 subst ev1
 subst ev
 cases hnm:nameB (L S.ss[i].name) with
 | false =>
  have HE:=hid (errS_form hi hnm)
  have CN:=hid (fun W=>rname_is S.ss[i].name false hnm W (by unfold maxLen;omega))
  clear hnm hz hl hpl efp
  go_enter Tryz.func61,Tryz.ntmps61
  go_wp2_with fail
  refine (CN.out _).mono ?_
  rintro e w' ⟨rfl,rfl⟩
  go_wp2
  go_ret
  exact ⟨by rw [HE.out];rfl,((Below.refl _ w).alloc (Nat.le_refl _) _).alloc (by simp) _⟩
 | true =>
  have HN:=hid hnm
  have CN:=hid (fun W=>rname_is S.ss[i].name true hnm W (by unfold maxLen;omega))
  have hst0:=RSt.new w (.slice a1 S.ds.length c1) v2 (.slice (some ⟨b,o,none⟩) S.ss.length c) v4 66 #[.string S.ss[i].name,.int .i64 S.ss[i].div,.int .i64 S.ss[i].num,.int .i64 S.ss[i].den,.slice ap S.ss[i].parts.length cp]
  have HS0:=hid hst0
  have HPL:=hid hpl
  clear hnm hz hst0 efp hpl
  by_cases hdv:0≤S.ss[i].div∧S.ss[i].div<(S.ds.length:Int)
  ·have CI:=hid (fun W=>rindex_is S.ss[i].div S.ds.length true (decide_eq_true hdv) W)
   have HDV:=hid hdv
   clear hdv
   go_enter Tryz.func61,Tryz.ntmps61
   go_wp2_with fail
   refine (CN.out _).mono ?_
   rintro e w' ⟨rfl,rfl⟩
   go_wp2_with (go_at_call 106;with_reducible refine (CI.out _).mono ?_;rintro e w' ⟨rfl,rfl⟩)
   go_loopw [6] (fun x wr=>∃ k:Nat,k≤i∧x = .int .i64 k∧Hid (∀ j (hj:j<k) (h:j<S.ss.length),S.ss[j].div=S.ss[i].div→L S.ss[j].name≠L S.ss[i].name)∧Hid (RSt w (.slice a1 S.ds.length c1) v2 (.slice (some ⟨b,o,none⟩) S.ss.length c) v4 66 #[.string S.ss[i].name,.int .i64 S.ss[i].div,.int .i64 S.ss[i].num,.int .i64 S.ss[i].den,.slice ap S.ss[i].parts.length cp] wr)) (fun x _=>i-(intOf x).toNat)
   case atStart=>exact ⟨0,by omega,rfl,hid (fun j hj=>by omega),HS0⟩
   obtain ⟨k,hk,rfl,hE,hS⟩:=hrel
   obtain ⟨s0,s1,s2,s3⟩:=hS.out.spec.four
   have y0:=hS.out.el.cell 0
   have y1:=hS.out.el.cell 1
   by_cases hlt2:k<i
   ·obtain ⟨b',o',c',ev',hbl,d0,d1,_,_,_⟩:=(HSP.out.later hS.out.low).sAt k (by omega)
    cases ev'
    have hk2:((k:Int)<i):=by omega
    by_cases hqd:S.ss[k].div=S.ss[i].div
    ·have HBD:(S.ss[k].div==S.ss[i].div)=true:=beq_iff_eq.2 hqd
     by_cases hq:L S.ss[k].name=L S.ss[i].name
     ·have HE:=hid (errS_twice hi HN.out HDV.out hlt2 hq hqd)
      have HB:=hid (beq_L hq)
      clear hq
      go_wp2_with fail
      go_quiet (fail)
      rw [HB.out]
      go_wp2
      go_ret
      exact ⟨by rw [HE.out];rfl,(hS.out.drawn nq).low⟩
     ·have hne:=hid hq
      have HB:=hid (bne_L hq)
      clear hq
      go_wp2_with fail
      go_quiet (fail)
      rw [HB.out]
      go_wp2
      go_roundw
      case rel=>exact ⟨k+1,by omega,by go_num,hid (fun j hj h=>by rcases Nat.lt_succ_iff_lt_or_eq.1 hj with h' | h';exact hE.out j h' h;subst h';exact fun _=>hne.out),hid (hS.out.drawn nq)⟩
      case measure=>simp [intOf];omega
    ·have HBD:(S.ss[k].div==S.ss[i].div)=false:=beq_eq_false_iff_ne.2 hqd
     have hne:=hid hqd
     clear hqd
     go_wp2_with fail
     go_quiet (fail)
     go_wp2
     go_roundw
     case rel=>exact ⟨k+1,by omega,by go_num,hid (fun j hj h=>by rcases Nat.lt_succ_iff_lt_or_eq.1 hj with h' | h';exact hE.out j h' h;subst h';exact fun e=>absurd e hne.out),hid (hS.out.drawn nq)⟩
     case measure=>simp [intOf];omega
   ·have hke:k=i:=by omega
    have HE:=hid (errS_next hi HN.out HDV.out (fun j hj=>hE.out j (by omega) (by omega)))
    have hk2:¬ ((k:Int)<i):=by omega
    have HL:=hid hS.out.low
    have HEL:=hid hS.out.el
    obtain ⟨nu,hnu⟩:∃ x,x=S.ss[i].num:=⟨_,rfl⟩
    obtain ⟨de,hde⟩:∃ x,x=S.ss[i].den:=⟨_,rfl⟩
    obtain ⟨np,hnp⟩:∃ x,x=S.ss[i].parts.length:=⟨_,rfl⟩
    have HSE:=hid (show stE S.ss[i]=if FeetOk nu de∧0<np then (if np≤12 then 0 else 3) else 2 by unfold stE;rw [hnu,hde,hnp])
    have y2:wr.cell? ⟨w.heap.size+1,2,none⟩=some (.int .i64 nu):=by rw [hnu];exact HEL.out.cell 2
    have y3:wr.cell? ⟨w.heap.size+1,3,none⟩=some (.int .i64 de):=by rw [hde];exact HEL.out.cell 3
    have HY:=hid (show ∀ W,Below wr.heap.size wr W→W.cell? ⟨w.heap.size+1,4,none⟩=some (.slice ap np cp) by
     intro W hW
     have k2:=HEL.out.below hW
     rw [hnp]
     exact k2.cell 4)
    have hnl:np≤1000:=by rw [hnp];exact HPL.out
    clear hnu hde hnp
    by_cases h1:FeetOk nu de
    ·have CV:=hid (fun W=>rvalid_is nu de true (decide_eq_true h1) W)
     have HF:=hid h1
     clear h1
     by_cases h2:0<np
     ·by_cases h3:np≤12
      ·have HP:=hid (show stE S.ss[i]=0 by rw [HSE.out,if_pos ⟨HF.out,h2⟩,if_pos h3])
       have h2':¬ ((np:Int)=0):=by omega
       have h3':¬ (12<(np:Int)):=by omega
       go_wp2_with (go_at_call 105;with_reducible refine (CV.out _).mono ?_;rintro e w2 ⟨rfl,hb2⟩;have HL2:=below_step HL.out hb2;have z4:=HY.out _ hb2)
       go_ret
       exact ⟨by rw [HE.out,HP.out];rfl,HL2⟩
      ·have HP:=hid (show stE S.ss[i]=3 by rw [HSE.out,if_pos ⟨HF.out,h2⟩,if_neg h3])
       have h2':¬ ((np:Int)=0):=by omega
       have h3':12<(np:Int):=by omega
       go_wp2_with (go_at_call 105;with_reducible refine (CV.out _).mono ?_;rintro e w2 ⟨rfl,hb2⟩;have HL2:=below_step HL.out hb2;have z4:=HY.out _ hb2)
       go_ret
       exact ⟨by rw [HE.out,HP.out];rfl,HL2⟩
     ·have HP:=hid (show stE S.ss[i]=2 by rw [HSE.out,if_neg (fun h=>h2 h.2)])
      have h2':(np:Int)=0:=by omega
      go_wp2_with (go_at_call 105;with_reducible refine (CV.out _).mono ?_;rintro e w2 ⟨rfl,hb2⟩;have HL2:=below_step HL.out hb2;have z4:=HY.out _ hb2)
      go_ret
      exact ⟨by rw [HE.out,HP.out];rfl,HL2⟩
    ·have CV:=hid (fun W=>rvalid_is nu de false (decide_eq_false h1) W)
     have HP:=hid (show stE S.ss[i]=2 by rw [HSE.out,if_neg (fun h=>h1 h.1)])
     clear h1
     go_wp2_with (go_at_call 105;with_reducible refine (CV.out _).mono ?_;rintro e w2 ⟨rfl,hb2⟩;have HL2:=below_step HL.out hb2;have z4:=HY.out _ hb2)
     go_ret
     exact ⟨by rw [HE.out,HP.out];rfl,HL2⟩
  ·have CI:=hid (fun W=>rindex_is S.ss[i].div S.ds.length false (decide_eq_false hdv) W)
   have HE:=hid (errS_none hi HN.out hdv)
   clear hdv
   go_enter Tryz.func61,Tryz.ntmps61
   go_wp2_with fail
   refine (CN.out _).mono ?_
   rintro e w' ⟨rfl,rfl⟩
   go_wp2_with (go_at_call 106;with_reducible refine (CI.out _).mono ?_;rintro e w' ⟨rfl,rfl⟩)
   go_ret
   exact ⟨by rw [HE.out];rfl,HS0.out.low⟩
theorem rcoupler_any (v1 v2 v3 v4:Value) (S:Sp) (ok:SpOk S) (i:Nat) (hi:i<S.cs.length) (f:Nat→Value) (w:World) (hsp:SpRd w v1 v2 v3 v4 f S) :
  Calls Tryz.prog 63 #[.agg #[v1,v2,v3,v4],.int .i64 i] w fun e w'=>e = .returned (.int .i64 (errC S i))∧Below w.heap.size w w':=by
 have hz:=ok.cn _ (List.getElem_mem hi)
 have hl:=ok.c
 obtain ⟨a1,c1,ev1⟩:=hsp.forms.1
 obtain ⟨b,o,c,ev,hlt,e0,e1,e2,e3,e4,e5⟩:=hsp.cAt i hi
 have HSP:=hid hsp
 subst ev1
 subst ev
 cases hnm:nameB (L S.cs[i].name) with
 | false =>
  have HE:=hid (errC_form hi hnm)
  have CN:=hid (fun W=>rname_is S.cs[i].name false hnm W (by unfold maxLen;omega))
  clear hnm hz hl
  go_enter Tryz.func63,Tryz.ntmps63
  go_wp2_with fail
  refine (CN.out _).mono ?_
  rintro e w' ⟨rfl,rfl⟩
  go_wp2
  go_ret
  exact ⟨by rw [HE.out];rfl,((Below.refl _ w).alloc (Nat.le_refl _) _).alloc (by simp) _⟩
 | true =>
  have HN:=hid hnm
  have CN:=hid (fun W=>rname_is S.cs[i].name true hnm W (by unfold maxLen;omega))
  have hst0:=RSt.new w (.slice a1 S.ds.length c1) v2 v3 (.slice (some ⟨b,o,none⟩) S.cs.length c) 145 #[.string S.cs[i].name,.int .i64 S.cs[i].frm,.int .i64 S.cs[i].to,.int .i64 S.cs[i].shift,.int .i64 S.cs[i].only,.bool S.cs[i].thr]
  have HS0:=hid hst0
  clear hnm hz hst0
  go_enter Tryz.func63,Tryz.ntmps63
  go_wp2_with fail
  refine (CN.out _).mono ?_
  rintro e w' ⟨rfl,rfl⟩
  go_wp2
  go_loopw [6] (fun x wr=>∃ k:Nat,k≤i∧x = .int .i64 k∧Hid (∀ j (hj:j<k) (h:j<S.cs.length),L S.cs[j].name≠L S.cs[i].name)∧Hid (RSt w (.slice a1 S.ds.length c1) v2 v3 (.slice (some ⟨b,o,none⟩) S.cs.length c) 145 #[.string S.cs[i].name,.int .i64 S.cs[i].frm,.int .i64 S.cs[i].to,.int .i64 S.cs[i].shift,.int .i64 S.cs[i].only,.bool S.cs[i].thr] wr)) (fun x _=>i-(intOf x).toNat)
  case atStart=>exact ⟨0,by omega,rfl,hid (fun j hj=>by omega),HS0⟩
  obtain ⟨k,hk,rfl,hE,hS⟩:=hrel
  obtain ⟨s0,s1,s2,s3⟩:=hS.out.spec.four
  have y0:=hS.out.el.cell 0
  by_cases hlt2:k<i
  ·obtain ⟨b',o',c',ev',hbl,d0,_,_,_,_,_⟩:=(HSP.out.later hS.out.low).cAt k (by omega)
   cases ev'
   have hk2:((k:Int)<i):=by omega
   by_cases hq:L S.cs[k].name=L S.cs[i].name
   ·have HE:=hid (errC_twice hi HN.out hlt2 hq)
    have HB:=hid (beq_L hq)
    clear hq
    go_wp2_with fail
    go_quiet (fail)
    rw [HB.out]
    go_wp2
    go_ret
    exact ⟨by rw [HE.out];rfl,(hS.out.drawn nq).low⟩
   ·have hne:=hid hq
    have HB:=hid (bne_L hq)
    clear hq
    go_wp2_with fail
    go_quiet (fail)
    rw [HB.out]
    go_wp2
    go_roundw
    case rel=>exact ⟨k+1,by omega,by go_num,hid (fun j hj h=>by rcases Nat.lt_succ_iff_lt_or_eq.1 hj with h' | h';exact hE.out j h' h;subst h';exact hne.out),hid (hS.out.drawn nq)⟩
    case measure=>simp [intOf];omega
  ·have hke:k=i:=by omega
   have HE:=hid (errC_next hi HN.out (fun j hj=>hE.out j (by omega) (by omega)))
   have hk2:¬ ((k:Int)<i):=by omega
   have HL:=hid hS.out.low
   have HEL:=hid hS.out.el
   obtain ⟨fr,hfr⟩:∃ x,x=S.cs[i].frm:=⟨_,rfl⟩
   obtain ⟨to,hto⟩:∃ x,x=S.cs[i].to:=⟨_,rfl⟩
   obtain ⟨sh,hsh⟩:∃ x,x=S.cs[i].shift:=⟨_,rfl⟩
   obtain ⟨on,hon⟩:∃ x,x=S.cs[i].only:=⟨_,rfl⟩
   obtain ⟨th,hth⟩:∃ x,x=S.cs[i].thr:=⟨_,rfl⟩
   have HCE:=hid (show cpE S S.cs[i]=if 0≤fr∧fr<S.ds.length∧0≤to∧to<S.ds.length then (if (sh = -12∨sh=12∨sh=0∧fr≠to)∧0≤on∧on≤2∧¬ (th=true∧on≠0) then 0 else 2) else 4 by unfold cpE;rw [hfr,hto,hsh,hon,hth])
   have y1:wr.cell? ⟨w.heap.size+1,1,none⟩=some (.int .i64 fr):=by rw [hfr];exact HEL.out.cell 1
   have y2:wr.cell? ⟨w.heap.size+1,2,none⟩=some (.int .i64 to):=by rw [hto];exact HEL.out.cell 2
   have y3:wr.cell? ⟨w.heap.size+1,3,none⟩=some (.int .i64 sh):=by rw [hsh];exact HEL.out.cell 3
   have y4:wr.cell? ⟨w.heap.size+1,4,none⟩=some (.int .i64 on):=by rw [hon];exact HEL.out.cell 4
   have y5:wr.cell? ⟨w.heap.size+1,5,none⟩=some (.bool th):=by rw [hth];exact HEL.out.cell 5
   clear hfr hto hsh hon hth
   by_cases h1:0≤fr∧fr<(S.ds.length:Int)
   ·have C1:=hid (fun W=>rindex_is fr S.ds.length true (decide_eq_true h1) W)
    by_cases h2:0≤to∧to<(S.ds.length:Int)
    ·have C2:=hid (fun W=>rindex_is to S.ds.length true (decide_eq_true h2) W)
     have HC2:=hid (show cpE S S.cs[i]=if (sh = -12∨sh=12∨sh=0∧fr≠to)∧0≤on∧on≤2∧¬ (th=true∧on≠0) then 0 else 2 by rw [HCE.out,if_pos ⟨h1.1,h1.2,h2.1,h2.2⟩])
     clear h1 h2
     rcases (show th=true∨th=false by cases th <;> simp) with ht | ht
     all_goals
      go_wp2_with (first | (go_at_call 106;with_reducible refine (C1.out _).mono ?_;rintro e w' ⟨rfl,rfl⟩) | (go_at_call 106;with_reducible refine (C2.out _).mono ?_;rintro e w' ⟨rfl,rfl⟩))
      all_goals first
       | (go_ret;exact ⟨by rw [HE.out,HC2.out,if_pos ⟨by omega,by omega,by omega,fun h=>by first | omega | (rw [ht] at h;exact absurd h.1 (by decide))⟩];rfl,HL.out⟩)
       | (go_ret;exact ⟨by rw [HE.out,HC2.out,if_neg (fun h=>by obtain ⟨q1,q2,q3,q4⟩:=h;first | omega | exact q4 ⟨ht,by omega⟩)];rfl,HL.out⟩)
       | (trace_state;fail )
    ·have C2:=hid (fun W=>rindex_is to S.ds.length false (decide_eq_false h2) W)
     have HP0:=hid (show cpE S S.cs[i]=4 by rw [HCE.out,if_neg (fun h=>h2 ⟨h.2.2.1,h.2.2.2⟩)])
     clear h1 h2
     have HP:=HP0
     go_wp2_with (first | (go_at_call 106;with_reducible refine (C1.out _).mono ?_;rintro e w' ⟨rfl,rfl⟩) | (go_at_call 106;with_reducible refine (C2.out _).mono ?_;rintro e w' ⟨rfl,rfl⟩))
     go_ret
     exact ⟨by rw [HE.out,HP.out];rfl,HL.out⟩
   ·have C1:=hid (fun W=>rindex_is fr S.ds.length false (decide_eq_false h1) W)
    have HP0:=hid (show cpE S S.cs[i]=4 by rw [HCE.out,if_neg (fun h=>h1 ⟨h.1,h.2.1⟩)])
    clear h1
    have HP:=HP0
    go_wp2_with (first | (go_at_call 106;with_reducible refine (C1.out _).mono ?_;rintro e w' ⟨rfl,rfl⟩) | (go_at_call 106;with_reducible refine (C2.out _).mono ?_;rintro e w' ⟨rfl,rfl⟩))
    go_ret
    exact ⟨by rw [HE.out,HP.out];rfl,HL.out⟩
structure PtSt (w:World) (v1 v2 v3 v4:Value) (cx cp:Array Value) (W:World):Prop where
 spec:Blk W w.heap.size 27 #[v1,v2,v3,v4]
 st:Blk W (w.heap.size+1) 66 cx
 pt:Blk W (w.heap.size+2) 105 cp
 low:Below w.heap.size w W
theorem PtSt.below {w W W':World} {v1 v2 v3 v4:Value} {cx cp:Array Value} (h:PtSt w v1 v2 v3 v4 cx cp W) (hb:Below W.heap.size W W'):PtSt w v1 v2 v3 v4 cx cp W':=⟨h.spec.below hb,h.st.below hb,h.pt.below hb,below_step h.low hb⟩
theorem PtSt.new (w:World) (v1 v2 v3 v4:Value) (cx cp:Array Value):PtSt w v1 v2 v3 v4 cx cp (((w.alloc (.cells #[v1,v2,v3,v4] 27)).alloc (.cells cx 66)).alloc (.cells cp 105)) where
 spec:=((Blk.new w _ _).alloc _).alloc _
 st:=by
  have:=(Blk.new (w.alloc (.cells #[v1,v2,v3,v4] 27)) 66 cx).alloc (.cells cp 105)
  rwa [World.size_alloc] at this
 pt:=by
  have:=Blk.new ((w.alloc (.cells #[v1,v2,v3,v4] 27)).alloc (.cells cx 66)) 105 cp
  simp only [World.size_alloc] at this
  exact this
 low:=(((Below.refl _ w).alloc (Nat.le_refl _) _).alloc (by simp) _).alloc (by simp;omega) _
theorem held_step9 {W0 W w':World} {a0:Addr} {u0:Value} {a1:Addr} {u1:Value} {a2:Addr} {u2:Value} {a3:Addr} {u3:Value} {a4:Addr} {u4:Value} {a5:Addr} {u5:Value} {a6:Addr} {u6:Value} {a7:Addr} {u7:Value} {a8:Addr} {u8:Value} (h:Below W0.heap.size W0 W∧W.cell? a0=some u0∧W.cell? a1=some u1∧W.cell? a2=some u2∧W.cell? a3=some u3∧W.cell? a4=some u4∧W.cell? a5=some u5∧W.cell? a6=some u6∧W.cell? a7=some u7∧W.cell? a8=some u8) (hb:Below W.heap.size W w'):Below W0.heap.size W0 w'∧w'.cell? a0=some u0∧w'.cell? a1=some u1∧w'.cell? a2=some u2∧w'.cell? a3=some u3∧w'.cell? a4=some u4∧w'.cell? a5=some u5∧w'.cell? a6=some u6∧w'.cell? a7=some u7∧w'.cell? a8=some u8:=by
 obtain ⟨h0,g0,g1,g2,g3,g4,g5,g6,g7,g8⟩:=h
 exact ⟨below_step h0 hb,(hb.cell (cell_size g0)).trans g0,(hb.cell (cell_size g1)).trans g1,(hb.cell (cell_size g2)).trans g2,(hb.cell (cell_size g3)).trans g3,(hb.cell (cell_size g4)).trans g4,(hb.cell (cell_size g5)).trans g5,(hb.cell (cell_size g6)).trans g6,(hb.cell (cell_size g7)).trans g7,(hb.cell (cell_size g8)).trans g8⟩
def ptV (d:Dv) (r:Rk) (ps pl ph:Int):Int:=if d.lo≤pl∧ph≤d.hi∧pl≤ph∧-96≤ps∧ps≤96 then (if r.low≤pl+ps∧ph+ps<r.low+r.cnt then 0 else 4) else 7
theorem rpart_in (v1 v2 v3 v4:Value) (S:Sp) (ok:SpOk S) (xn:ByteArray) (xnu xde:Int) (i q:Nat) (v:Value) (ps pl ph:Int) (d:Dv) (r:Rk) (f:Nat→Value) (w:World) (hsp:SpRd w v1 v2 v3 v4 f S)
  (hil:i<S.ds.length) (hql:q<S.rs.length) (hd:S.ds[i]=d) (hr:S.rs[q]=r) (hdd:dvE d=0) (hrr:rkE r=0) :
  Calls Tryz.prog 62 #[.agg #[v1,v2,v3,v4],.agg #[.string xn,.int .i64 i,.int .i64 xnu,.int .i64 xde,v],.agg #[.int .i64 q,.int .i64 ps,.int .i64 pl,.int .i64 ph]] w fun e w'=>e = .returned (.int .i64 (ptV d r ps pl ph))∧Below w.heap.size w w':=by
 have hl:=ok.r
 have hld:=ok.d
 have HSP:=hid hsp
 have hst0:=PtSt.new w v1 v2 v3 v4 #[.string xn,.int .i64 i,.int .i64 xnu,.int .i64 xde,v] #[.int .i64 q,.int .i64 ps,.int .i64 pl,.int .i64 ph]
 have HS0:=hid hst0
 clear hst0
 have C1:=hid (fun W=>rindex_is (q:Int) S.rs.length true (decide_eq_true ⟨by omega,by omega⟩) W)
 obtain ⟨b,o,c,ev,hlt,e0,e1,e2⟩:=(hsp.later HS0.out.low).dAt i hil
 rw [hd] at e0 e1 e2
 obtain ⟨a2,c2,ev2⟩:=hsp.forms.2.1
 subst ev
 subst ev2
 have hb1:0≤d.lo∧d.lo≤127∧d.hi≤127:=by unfold dvE at hdd;split at hdd <;> omega
 have hb2:0≤r.low∧r.low+r.cnt≤128∧1≤r.cnt:=by
  unfold rkE at hrr
  split at hrr
  ·split at hrr
   ·omega
   ·omega
  ·omega
 clear hdd hrr
 have CH:=hid (fun n W (h : -1000≤n∧n≤1000)=>rhas_any r.name r.kind r.num r.den r.low r.cnt n W (by omega))
 by_cases hw:d.lo≤pl∧ph≤d.hi∧pl≤ph∧-96≤ps∧ps≤96
 ·have HV:=hid (show ptV d r ps pl ph=if r.low≤pl+ps∧ph+ps<r.low+r.cnt then 0 else 4 by unfold ptV;rw [if_pos hw])
  obtain ⟨w1,w2,w3,w4,w5⟩:=hw
  have HR:=hid hr
  clear hr hd
  go_enter Tryz.func62,Tryz.ntmps62
  go_wp2_with (go_at_call 106;with_reducible refine (C1.out _).mono ?_;rintro e w' ⟨rfl,rfl⟩)
  all_goals (try (exfalso;omega))
  go_loopw [8] (fun x wr=>∃ k:Nat,pl+k≤ph+1∧x = .int .i64 (pl+k)∧Hid (∀ j:Nat,j<k→r.low≤pl+j+ps∧pl+j+ps<r.low+r.cnt)∧Hid (PtSt w (.slice (some ⟨b,o,none⟩) S.ds.length c) (.slice a2 S.rs.length c2) v3 v4 #[.string xn,.int .i64 i,.int .i64 xnu,.int .i64 xde,v] #[.int .i64 q,.int .i64 ps,.int .i64 pl,.int .i64 ph] wr)) (fun x _=>(ph+1-intOf x).toNat)
  case atStart=>exact ⟨0,by omega,by simp,hid (fun j hj=>by omega),hid (HS0.out.below ((Below.refl _ _).alloc (Nat.le_refl _) _))⟩
  obtain ⟨k,hk,rfl,hE,hS⟩:=hrel
  have t3:=hS.out.pt.cell 3
  by_cases hlt2:pl+k≤ph
  ·obtain ⟨s0,s1,s2,s3⟩:=hS.out.spec.four
   obtain ⟨t0,t1,t2,_⟩:=hS.out.pt.four
   obtain ⟨b',o',c',ev',hbl,q0,q1,q2,q3,q4,q5⟩:=(HSP.out.later hS.out.low).rAt q hql
   cases ev'
   rw [HR.out] at q0 q1 q2 q3 q4 q5
   have hq1:(0:Int)≤(q:Int):=by omega
   have hq2:(q:Int)<(S.rs.length:Int):=by omega
   have hdr:Below wr.heap.size wr wr.drew:=(Below.refl _ _).drew
   have hrg : -1000≤pl+k+ps∧pl+k+ps≤1000:=by omega
   have e3:IntKind.i64.wrap (pl+k+ps)=pl+k+ps:=IntWalk.i64_in _ (by omega)
   have CH2:=hid (fun W=>CH.out (pl+k+ps) W hrg)
   clear e0 e1 e2 hlt
   by_cases hin:r.low≤pl+k+ps∧pl+k+ps<r.low+r.cnt
   ·rw [decide_eq_true hin] at CH2
    have HIN:=hid hin
    clear hin
    go_wp2_with fail
    go_region_held3 (fun w'=>Below wr.heap.size wr w'∧w'.cell? ⟨w.heap.size,1,none⟩=some (.slice (some ⟨b',o',none⟩) S.rs.length c2)∧w'.cell? ⟨w.heap.size+2,0,none⟩=some (.int .i64 q)∧w'.cell? ⟨w.heap.size+2,1,none⟩=some (.int .i64 ps)∧w'.cell? ⟨b',o'+q * 6,none⟩=some (.string r.name)∧w'.cell? ⟨b',o'+q * 6+1,none⟩=some (.int .i64 r.kind)∧w'.cell? ⟨b',o'+q * 6+2,none⟩=some (.int .i64 r.num)∧w'.cell? ⟨b',o'+q * 6+3,none⟩=some (.int .i64 r.den)∧w'.cell? ⟨b',o'+q * 6+4,none⟩=some (.int .i64 r.low)∧w'.cell? ⟨b',o'+q * 6+5,none⟩=some (.int .i64 r.cnt)) (first | exact ⟨hdr,s1,t0,t1,q0,q1,q2,q3,q4,q5⟩ | assumption) (first | (go_at_call 107;(try rw [e3]);with_reducible refine (CH2.out _).mono ?_;rintro e w2 ⟨rfl,hb2⟩;have hn:=held_step9 (by assumption) hb2;clear hb2))
    go_wp2
    go_roundw
    case rel=>exact ⟨k+1,by omega,by go_num,hid (fun j hj=>by rcases Nat.lt_succ_iff_lt_or_eq.1 hj with h' | h';exact hE.out j h';subst h';exact HIN.out),hid (hS.out.below hn.1)⟩
    case measure=>simp [intOf];omega
   ·rw [decide_eq_false hin] at CH2
    have HV4:=hid (show ptV d r ps pl ph=4 by rw [HV.out,if_neg (by omega)])
    clear hin
    go_wp2_with fail
    go_region_held3 (fun w'=>Below wr.heap.size wr w'∧w'.cell? ⟨w.heap.size,1,none⟩=some (.slice (some ⟨b',o',none⟩) S.rs.length c2)∧w'.cell? ⟨w.heap.size+2,0,none⟩=some (.int .i64 q)∧w'.cell? ⟨w.heap.size+2,1,none⟩=some (.int .i64 ps)∧w'.cell? ⟨b',o'+q * 6,none⟩=some (.string r.name)∧w'.cell? ⟨b',o'+q * 6+1,none⟩=some (.int .i64 r.kind)∧w'.cell? ⟨b',o'+q * 6+2,none⟩=some (.int .i64 r.num)∧w'.cell? ⟨b',o'+q * 6+3,none⟩=some (.int .i64 r.den)∧w'.cell? ⟨b',o'+q * 6+4,none⟩=some (.int .i64 r.low)∧w'.cell? ⟨b',o'+q * 6+5,none⟩=some (.int .i64 r.cnt)) (first | exact ⟨hdr,s1,t0,t1,q0,q1,q2,q3,q4,q5⟩ | assumption) (first | (go_at_call 107;(try rw [e3]);with_reducible refine (CH2.out _).mono ?_;rintro e w2 ⟨rfl,hb2⟩;have hn:=held_step9 (by assumption) hb2;clear hb2))
    go_wp2
    go_ret
    exact ⟨by rw [HV4.out];rfl,(hS.out.below hn.1).low⟩
  ·have hke:pl+k=ph+1:=by omega
   have HV0:=hid (show ptV d r ps pl ph=0 by
    rw [HV.out,if_pos]
    have h0:=hE.out 0 (by omega)
    have h1:=hE.out (k-1) (by omega)
    omega)
   have HL:=hid hS.out.low
   go_wp2
   go_ret
   exact ⟨by rw [HV0.out];rfl,HL.out⟩
 ·have HV:=hid (show ptV d r ps pl ph=7 by unfold ptV;rw [if_neg hw])
  go_enter Tryz.func62,Tryz.ntmps62
  go_wp2_with (go_at_call 106;with_reducible refine (C1.out _).mono ?_;rintro e w' ⟨rfl,rfl⟩)
  all_goals first
   | (exfalso;omega)
   | (go_ret;exact ⟨by rw [HV.out];rfl,HS0.out.low.alloc (by simp;omega) _⟩)
theorem rpart_any (v1 v2 v3 v4:Value) (S:Sp) (ok:SpOk S) (x:St) (v:Value) (p:Pt) (f:Nat→Value) (w:World) (hsp:SpRd w v1 v2 v3 v4 f S)
  (hd1:0≤x.div) (hd2:x.div<S.ds.length) (hdv:∀ d∈S.ds,dvE d=0) (hrv:∀ r∈S.rs,rkE r=0) :
  Calls Tryz.prog 62 #[.agg #[v1,v2,v3,v4],.agg #[.string x.name,.int .i64 x.div,.int .i64 x.num,.int .i64 x.den,v],.agg #[.int .i64 p.rank,.int .i64 p.shift,.int .i64 p.lo,.int .i64 p.hi]] w fun e w'=>e = .returned (.int .i64 (ptE S x p))∧Below w.heap.size w w':=by
 obtain ⟨i,hi⟩:=Int.eq_ofNat_of_zero_le hd1
 have hil:i<S.ds.length:=by omega
 have hti:x.div.toNat=i:=by omega
 by_cases h:0≤p.rank∧p.rank<(S.rs.length:Int)
 ·have HP:=ptE_is (S:=S) (x:=x) (p:=p) (by omega) h.1 h.2
  obtain ⟨q,hq⟩:=Int.eq_ofNat_of_zero_le h.1
  have hql:q<S.rs.length:=by omega
  have htq:p.rank.toNat=q:=by omega
  simp only [hti,htq] at HP
  have HP2:ptE S x p=ptV S.ds[i] S.rs[q] p.shift p.lo p.hi:=HP
  rw [HP2,hi,hq]
  exact rpart_in v1 v2 v3 v4 S ok x.name x.num x.den i q v p.shift p.lo p.hi S.ds[i] S.rs[q] f w hsp hil hql rfl rfl (hdv _ (List.getElem_mem hil)) (hrv _ (List.getElem_mem hql))
 ·rw [ptE_none h]
  have hst0:=PtSt.new w v1 v2 v3 v4 #[.string x.name,.int .i64 x.div,.int .i64 x.num,.int .i64 x.den,v] #[.int .i64 p.rank,.int .i64 p.shift,.int .i64 p.lo,.int .i64 p.hi]
  have HS0:=hid hst0
  obtain ⟨a2,c2,ev2⟩:=hsp.forms.2.1
  clear hst0
  subst ev2
  have C1:=hid (fun W=>rindex_is p.rank S.rs.length false (decide_eq_false h) W)
  clear h hi
  go_enter Tryz.func62,Tryz.ntmps62
  go_wp2_with (go_at_call 106;with_reducible refine (C1.out _).mono ?_;rintro e w' ⟨rfl,rfl⟩)
  go_ret
  exact ⟨rfl,HS0.out.low⟩
theorem held_step13 {W0 W w':World} {a0:Addr} {u0:Value} {a1:Addr} {u1:Value} {a2:Addr} {u2:Value} {a3:Addr} {u3:Value} {a4:Addr} {u4:Value} {a5:Addr} {u5:Value} {a6:Addr} {u6:Value} {a7:Addr} {u7:Value} {a8:Addr} {u8:Value} {a9:Addr} {u9:Value} {a10:Addr} {u10:Value} {a11:Addr} {u11:Value} {a12:Addr} {u12:Value} (h:Below W0.heap.size W0 W∧W.cell? a0=some u0∧W.cell? a1=some u1∧W.cell? a2=some u2∧W.cell? a3=some u3∧W.cell? a4=some u4∧W.cell? a5=some u5∧W.cell? a6=some u6∧W.cell? a7=some u7∧W.cell? a8=some u8∧W.cell? a9=some u9∧W.cell? a10=some u10∧W.cell? a11=some u11∧W.cell? a12=some u12) (hb:Below W.heap.size W w'):Below W0.heap.size W0 w'∧w'.cell? a0=some u0∧w'.cell? a1=some u1∧w'.cell? a2=some u2∧w'.cell? a3=some u3∧w'.cell? a4=some u4∧w'.cell? a5=some u5∧w'.cell? a6=some u6∧w'.cell? a7=some u7∧w'.cell? a8=some u8∧w'.cell? a9=some u9∧w'.cell? a10=some u10∧w'.cell? a11=some u11∧w'.cell? a12=some u12:=by
 obtain ⟨h0,g0,g1,g2,g3,g4,g5,g6,g7,g8,g9,g10,g11,g12⟩:=h
 exact ⟨below_step h0 hb,(hb.cell (cell_size g0)).trans g0,(hb.cell (cell_size g1)).trans g1,(hb.cell (cell_size g2)).trans g2,(hb.cell (cell_size g3)).trans g3,(hb.cell (cell_size g4)).trans g4,(hb.cell (cell_size g5)).trans g5,(hb.cell (cell_size g6)).trans g6,(hb.cell (cell_size g7)).trans g7,(hb.cell (cell_size g8)).trans g8,(hb.cell (cell_size g9)).trans g9,(hb.cell (cell_size g10)).trans g10,(hb.cell (cell_size g11)).trans g11,(hb.cell (cell_size g12)).trans g12⟩
theorem rcheck_long (a1 a2 a3 a4:Option Addr) (c1 c2 c3 c4:Nat) (S:Sp) (w:World) (h:6<S.ds.length∨(S.ds.length≤6∧40<S.rs.length)∨(S.ds.length≤6∧S.rs.length≤40∧80<S.ss.length)∨(S.ds.length≤6∧S.rs.length≤40∧S.ss.length≤80∧24<S.cs.length)) :
  Calls Tryz.prog 27 #[.agg #[.slice a1 S.ds.length c1,.slice a2 S.rs.length c2,.slice a3 S.ss.length c3,.slice a4 S.cs.length c4]] w fun e w'=>e = .returned (ckV (checkP S))∧Below w.heap.size w w':=by
 have HL:=hid (check_toolong (S:=S) (by omega))
 have st0:=RSt.new w (.slice a1 S.ds.length c1) (.slice a2 S.rs.length c2) (.slice a3 S.ss.length c3) (.slice a4 S.cs.length c4) 69 #[.int .i64 0,.int .i64 0,.int .i64 0]
 have HS:=hid st0.low
 clear st0
 rcases h with h | ⟨h1,h⟩ | ⟨h1,h2,h⟩ | ⟨h1,h2,h3,h⟩
 all_goals
  go_enter Tryz.func27,Tryz.ntmps27
  go_wp2
  refine bodyPost_ret (v:=.tuple #[.agg #[.int .i64 0,.int .i64 0,.int .i64 0],.int .i64 3]) (by simp [results,Tryz.results27,go_sem]) rfl ⟨by rw [HL.out];rfl,?_⟩
  exact HS.out
theorem rcheck_short (a1 a2 a3 a4:Option Addr) (c1 c2 c3 c4:Nat) (S:Sp) (ok:SpOk S) (w:World) (f:Nat→Value) (hsp:SpRd w (.slice a1 S.ds.length c1) (.slice a2 S.rs.length c2) (.slice a3 S.ss.length c3) (.slice a4 S.cs.length c4) f S)
  (l1:S.ds.length≤6) (l2:S.rs.length≤40) (l3:S.ss.length≤80) (l4:S.cs.length≤24) :
  Calls Tryz.prog 27 #[.agg #[.slice a1 S.ds.length c1,.slice a2 S.rs.length c2,.slice a3 S.ss.length c3,.slice a4 S.cs.length c4]] w fun e w'=>e = .returned (ckV (checkP S))∧Below w.heap.size w w':=by
 have hl:¬ (6<S.ds.length∨40<S.rs.length∨80<S.ss.length∨24<S.cs.length):=by omega
 have HLL:=hid hl
 have HST:=hid (RSt.new w (.slice a1 S.ds.length c1) (.slice a2 S.rs.length c2) (.slice a3 S.ss.length c3) (.slice a4 S.cs.length c4) 69 #[.int .i64 0,.int .i64 0,.int .i64 0])
 have HSP:=hid hsp
 have HOK:=hid ok
 have g6:decide ((6:Int)<(S.ds.length:Int))=false:=by rw [decide_eq_false_iff_not];omega
 have g40:decide ((40:Int)<(S.rs.length:Int))=false:=by rw [decide_eq_false_iff_not];omega
 have g80:decide ((80:Int)<(S.ss.length:Int))=false:=by rw [decide_eq_false_iff_not];omega
 have g24:decide ((24:Int)<(S.cs.length:Int))=false:=by rw [decide_eq_false_iff_not];omega
 clear hl hsp ok
 go_enter Tryz.func27,Tryz.ntmps27
 go_wp2
 go_loopw [4] (fun x wr=>∃ k:Nat,k≤S.ds.length∧x = .int .i64 k∧Hid (∀ j,j<k→errD S j=0)∧Hid (RSt w (.slice a1 S.ds.length c1) (.slice a2 S.rs.length c2) (.slice a3 S.ss.length c3) (.slice a4 S.cs.length c4) 69 #[.int .i64 0,.int .i64 0,.int .i64 0] wr)) (fun x _=>S.ds.length-(intOf x).toNat)
 case atStart=>exact ⟨0,by omega,rfl,hid (fun j hj=>by omega),HST⟩
 clear HST
 obtain ⟨k,hk,rfl,hE,hS⟩:=hrel
 obtain ⟨s0,s1,s2,s3⟩:=hS.out.spec.four
 by_cases hlt:k<S.ds.length
 ·have hk2:(k:Int)<(S.ds.length:Int):=by omega
  have HC:=hid (rdivision_any _ _ _ _ S HOK.out k hlt f wr (HSP.out.later hS.out.low))
  by_cases hz:errD S k=0
  ·have HZ:=hid hz
   rw [hz] at HC
   clear hz
   go_wp2_with fail
   refine (HC.out).mono ?_
   rintro e w2 ⟨rfl,hb2⟩
   have HS2:=hid (hS.out.below hb2)
   go_wp2
   go_roundw
   case rel=>exact ⟨k+1,by omega,by go_num,hid (fun j hj=>by rcases Nat.lt_succ_iff_lt_or_eq.1 hj with h | h;exact hE.out j h;rw [h];exact HZ.out),HS2⟩
   case measure=>simp [intOf];omega
  ·have HP:=hid (checkP_d HLL.out (fst0_some hlt hz hE.out))
   obtain ⟨ek,hek⟩:∃ x,x=errD S k:=⟨_,rfl⟩
   rw [← hek] at HP HC hz
   have b1:(ek==0)=false:=beq_eq_false_iff_ne.2 hz
   clear hek
   go_wp2_with fail
   refine (HC.out).mono ?_
   rintro e w2 ⟨rfl,hb2⟩
   have HS2:=hS.out.below hb2
   obtain ⟨x0,x1,x2,f0,f1,f2⟩:=HS2.el.three
   have HLW:=hid HS2.low
   have HEL:=hid HS2.el
   go_wp2
   have yy:=set_three HEL.out (.int .i64 1) (.int .i64 k) (.int .i64 0)
   obtain ⟨y0,y1,y2,_,_,_⟩:=yy.three
   refine bodyPost_ret (v:=.tuple #[.agg #[.int .i64 1,.int .i64 k,.int .i64 0],.int .i64 ek]) (by simp [results,Tryz.results27,go_sem,y0,y1,y2]) rfl ⟨by rw [HP.out];rfl,?_⟩
   exact below_three HLW.out (by omega) _ _ _
 ·have hke:k=S.ds.length:=by omega
  have hk2:¬ ((k:Int)<(S.ds.length:Int)):=by omega
  have HD:=hid (show fst0 (errD S) S.ds.length=none from fst0_none.2 (by have:=hE.out;rwa [hke] at this))
  have HST:=hS
  go_wp2
  clear hE hS hke hk2 hlt hk s0 s1 s2 s3
  go_loopw [6] (fun x wr=>∃ k:Nat,k≤S.rs.length∧x = .int .i64 k∧Hid (∀ j,j<k→errR S j=0)∧Hid (RSt w (.slice a1 S.ds.length c1) (.slice a2 S.rs.length c2) (.slice a3 S.ss.length c3) (.slice a4 S.cs.length c4) 69 #[.int .i64 0,.int .i64 0,.int .i64 0] wr)) (fun x _=>S.rs.length-(intOf x).toNat)
  case atStart=>exact ⟨0,by omega,rfl,hid (fun j hj=>by omega),HST⟩
  clear HST
  obtain ⟨k,hk,rfl,hE,hS⟩:=hrel
  obtain ⟨s0,s1,s2,s3⟩:=hS.out.spec.four
  by_cases hlt:k<S.rs.length
  ·have hk2:(k:Int)<(S.rs.length:Int):=by omega
   have HC:=hid (rrank_any _ _ _ _ S HOK.out k hlt f wr (HSP.out.later hS.out.low))
   by_cases hz:errR S k=0
   ·have HZ:=hid hz
    rw [hz] at HC
    clear hz
    go_wp2_with fail
    refine (HC.out).mono ?_
    rintro e w2 ⟨rfl,hb2⟩
    have HS2:=hid (hS.out.below hb2)
    go_wp2
    go_roundw
    case rel=>exact ⟨k+1,by omega,by go_num,hid (fun j hj=>by rcases Nat.lt_succ_iff_lt_or_eq.1 hj with h | h;exact hE.out j h;rw [h];exact HZ.out),HS2⟩
    case measure=>simp [intOf];omega
   ·have HP:=hid (checkP_r HLL.out HD.out (fst0_some hlt hz hE.out))
    obtain ⟨ek,hek⟩:∃ x,x=errR S k:=⟨_,rfl⟩
    rw [← hek] at HP HC hz
    have b1:(ek==0)=false:=beq_eq_false_iff_ne.2 hz
    clear hek
    go_wp2_with fail
    refine (HC.out).mono ?_
    rintro e w2 ⟨rfl,hb2⟩
    have HS2:=hS.out.below hb2
    obtain ⟨x0,x1,x2,f0,f1,f2⟩:=HS2.el.three
    have HLW:=hid HS2.low
    have HEL:=hid HS2.el
    go_wp2
    have yy:=set_three HEL.out (.int .i64 2) (.int .i64 k) (.int .i64 0)
    obtain ⟨y0,y1,y2,_,_,_⟩:=yy.three
    refine bodyPost_ret (v:=.tuple #[.agg #[.int .i64 2,.int .i64 k,.int .i64 0],.int .i64 ek]) (by simp [results,Tryz.results27,go_sem,y0,y1,y2]) rfl ⟨by rw [HP.out];rfl,?_⟩
    exact below_three HLW.out (by omega) _ _ _
  ·have hke:k=S.rs.length:=by omega
   have hk2:¬ ((k:Int)<(S.rs.length:Int)):=by omega
   have HR:=hid (show fst0 (errR S) S.rs.length=none from fst0_none.2 (by have:=hE.out;rwa [hke] at this))
   have HST:=hS
   go_wp2
   clear hE hS hke hk2 hlt hk s0 s1 s2 s3
   go_loopw [8] (fun x wr=>∃ k:Nat,k≤S.ss.length∧x = .int .i64 k∧Hid (∀ j,j<k→(stopE S j).2=0)∧Hid (RSt w (.slice a1 S.ds.length c1) (.slice a2 S.rs.length c2) (.slice a3 S.ss.length c3) (.slice a4 S.cs.length c4) 69 #[.int .i64 0,.int .i64 0,.int .i64 0] wr)) (fun x _=>S.ss.length-(intOf x).toNat)
   case atStart=>exact ⟨0,by omega,rfl,hid (fun j hj=>by omega),HST⟩
   clear HST
   obtain ⟨k,hk,rfl,hE,hS⟩:=hrel
   obtain ⟨s0,s1,s2,s3⟩:=hS.out.spec.four
   by_cases hlt:k<S.ss.length
   ·have hk2:(k:Int)<(S.ss.length:Int):=by omega
    have HC:=hid (rstop_any _ _ _ _ S HOK.out k hlt f wr (HSP.out.later hS.out.low))
    by_cases hz:errS S k=0
    ·have HZ:=hid hz
     rw [hz] at HC
     clear hz
     have hpl:=HOK.out.sp _ (List.getElem_mem hlt)
     have hls:=HOK.out.s
     go_wp2_with fail
     refine (HC.out).mono ?_
     rintro e w2 ⟨rfl,hb2⟩
     have HS2:=hid (hS.out.below hb2)
     clear s0 s1 s2 s3
     go_wp2
     go_loopw [10] (fun x wi=>∃ m:Nat,m≤S.ss[k].parts.length∧x = .int .i64 m∧Hid (∀ j,j<m→errP S S.ss[k] j=0)∧Hid (RSt w (.slice a1 S.ds.length c1) (.slice a2 S.rs.length c2) (.slice a3 S.ss.length c3) (.slice a4 S.cs.length c4) 69 #[.int .i64 0,.int .i64 0,.int .i64 0] wi)) (fun x _=>S.ss[k].parts.length-(intOf x).toNat)
     case atStart=>exact ⟨0,by omega,rfl,hid (fun j hj=>by omega),HS2⟩
     obtain ⟨m,hm,rfl,hE2,hSi⟩:=hrel
     have hspi:=HSP.out.later hSi.out.low
     obtain ⟨bs,os,cs,evs,hbs,q0,q1,q2,q3,q4⟩:=hspi.sAt k hlt
     cases evs
     obtain ⟨s0,s1,s2,s3⟩:=hSi.out.spec.four
     by_cases hmt:m<S.ss[k].parts.length
     ·obtain ⟨bp,op,cp,efp,hbp,p0,p1,p2,p3⟩:=hspi.pAt k hlt m hmt
      have HCP0:=fun W (hW:Below wr.heap.size wr W)=>rpart_any _ _ _ _ S HOK.out S.ss[k] (f k) S.ss[k].parts[m] f W (hspi.later hW) (errS_div hlt HZ.out).1 (errS_div hlt HZ.out).2 (all_dvE HD.out) (all_rkE HR.out)
      rw [efp] at q4 HCP0
      have hm2:(m:Int)<(S.ss[k].parts.length:Int):=by omega
      rw [← errP_is hmt] at HCP0
      have hdr:Below wr.heap.size wr wr.drew:=(Below.refl _ _).drew
      have HCP:=hid HCP0
      clear HCP0
      by_cases hz2:errP S S.ss[k] m=0
      ·have HZ2:=hid hz2
       rw [hz2] at HCP
       clear hz2
       go_wp2_with fail
       go_region_held3 (fun w'=>Below wr.heap.size wr w'∧w'.cell? ⟨w.heap.size,0,none⟩=some (.slice a1 S.ds.length c1)∧w'.cell? ⟨w.heap.size,1,none⟩=some (.slice a2 S.rs.length c2)∧w'.cell? ⟨w.heap.size,2,none⟩=some (.slice (some ⟨bs,os,none⟩) S.ss.length c3)∧w'.cell? ⟨w.heap.size,3,none⟩=some (.slice a4 S.cs.length c4)∧w'.cell? ⟨bs,os+k * 5,none⟩=some (.string S.ss[k].name)∧w'.cell? ⟨bs,os+k * 5+1,none⟩=some (.int .i64 S.ss[k].div)∧w'.cell? ⟨bs,os+k * 5+2,none⟩=some (.int .i64 S.ss[k].num)∧w'.cell? ⟨bs,os+k * 5+3,none⟩=some (.int .i64 S.ss[k].den)∧w'.cell? ⟨bs,os+k * 5+4,none⟩=some (.slice (some ⟨bp,op,none⟩) S.ss[k].parts.length cp)∧w'.cell? ⟨bp,op+m * 4,none⟩=some (.int .i64 S.ss[k].parts[m].rank)∧w'.cell? ⟨bp,op+m * 4+1,none⟩=some (.int .i64 S.ss[k].parts[m].shift)∧w'.cell? ⟨bp,op+m * 4+2,none⟩=some (.int .i64 S.ss[k].parts[m].lo)∧w'.cell? ⟨bp,op+m * 4+3,none⟩=some (.int .i64 S.ss[k].parts[m].hi)) (first | exact ⟨hdr,s0,s1,s2,s3,q0,q1,q2,q3,q4,p0,p1,p2,p3⟩ | assumption) (first | (go_at_call 62;refine (HCP.out _ (by first | exact And.left (by assumption) | exact hdr)).mono ?_;rintro e w2 ⟨rfl,hb2⟩;have hn:=held_step13 (by assumption) hb2;clear hb2))
       go_wp2
       go_roundw
       case rel=>exact ⟨m+1,by omega,by go_num,hid (fun j hj=>by rcases Nat.lt_succ_iff_lt_or_eq.1 hj with h | h;exact hE2.out j h;rw [h];exact HZ2.out),hid (hSi.out.below hn.1)⟩
       case measure=>simp [intOf];omega
      ·have HP:=hid (show checkP S=((3,(k:Int),(m:Int)+1),errP S S.ss[k] m) by
        have hb:=stopE_part hlt HZ.out (fst0_some hmt hz2 hE2.out)
        have:=checkP_s HLL.out HD.out HR.out hlt (by rw [hb];exact hz2) hE.out
        rw [hb] at this
        exact this)
       obtain ⟨ek,hek⟩:∃ x,x=errP S S.ss[k] m:=⟨_,rfl⟩
       rw [← hek] at HP HCP hz2
       have b1:(ek==0)=false:=beq_eq_false_iff_ne.2 hz2
       clear hek
       go_wp2_with fail
       go_region_held3 (fun w'=>Below wr.heap.size wr w'∧w'.cell? ⟨w.heap.size,0,none⟩=some (.slice a1 S.ds.length c1)∧w'.cell? ⟨w.heap.size,1,none⟩=some (.slice a2 S.rs.length c2)∧w'.cell? ⟨w.heap.size,2,none⟩=some (.slice (some ⟨bs,os,none⟩) S.ss.length c3)∧w'.cell? ⟨w.heap.size,3,none⟩=some (.slice a4 S.cs.length c4)∧w'.cell? ⟨bs,os+k * 5,none⟩=some (.string S.ss[k].name)∧w'.cell? ⟨bs,os+k * 5+1,none⟩=some (.int .i64 S.ss[k].div)∧w'.cell? ⟨bs,os+k * 5+2,none⟩=some (.int .i64 S.ss[k].num)∧w'.cell? ⟨bs,os+k * 5+3,none⟩=some (.int .i64 S.ss[k].den)∧w'.cell? ⟨bs,os+k * 5+4,none⟩=some (.slice (some ⟨bp,op,none⟩) S.ss[k].parts.length cp)∧w'.cell? ⟨bp,op+m * 4,none⟩=some (.int .i64 S.ss[k].parts[m].rank)∧w'.cell? ⟨bp,op+m * 4+1,none⟩=some (.int .i64 S.ss[k].parts[m].shift)∧w'.cell? ⟨bp,op+m * 4+2,none⟩=some (.int .i64 S.ss[k].parts[m].lo)∧w'.cell? ⟨bp,op+m * 4+3,none⟩=some (.int .i64 S.ss[k].parts[m].hi)) (first | exact ⟨hdr,s0,s1,s2,s3,q0,q1,q2,q3,q4,p0,p1,p2,p3⟩ | assumption) (first | (go_at_call 62;refine (HCP.out _ (by first | exact And.left (by assumption) | exact hdr)).mono ?_;rintro e w2 ⟨rfl,hb2⟩;have hn:=held_step13 (by assumption) hb2;clear hb2))
       have HS3:=hSi.out.below hn.1
       obtain ⟨x0,x1,x2,f0,f1,f2⟩:=HS3.el.three
       have HLW:=hid HS3.low
       have HEL:=hid HS3.el
       go_wp2
       have yy:=set_three HEL.out (.int .i64 3) (.int .i64 k) (.int .i64 ((m:Int)+1))
       obtain ⟨y0,y1,y2,_,_,_⟩:=yy.three
       refine bodyPost_ret (v:=.tuple #[.agg #[.int .i64 3,.int .i64 k,.int .i64 ((m:Int)+1)],.int .i64 ek]) (by simp [results,Tryz.results27,go_sem,y0,y1,y2]) rfl ⟨by rw [HP.out];rfl,?_⟩
       exact below_three HLW.out (by omega) _ _ _
     ·have hme:m=S.ss[k].parts.length:=by omega
      have hm2:¬ ((m:Int)<(S.ss[k].parts.length:Int)):=by omega
      have HSE:=hid (stopE_good hlt HZ.out (fst0_none.2 (by have:=hE2.out;rwa [hme] at this)))
      obtain ⟨ap,cp,efp⟩:=(hspi.p k hlt).form
      rw [List.length_map] at efp
      rw [efp] at q4
      go_wp2
      go_roundw
      case rel=>exact ⟨k+1,by omega,by go_num,hid (fun j hj=>by rcases Nat.lt_succ_iff_lt_or_eq.1 hj with h | h;exact hE.out j h;rw [h,HSE.out]),hSi⟩
      case measure=>simp [intOf];omega
    ·have HP:=hid (show checkP S=((3,(k:Int),0),errS S k) by
      have hb:=stopE_bad hlt hz
      have:=checkP_s HLL.out HD.out HR.out hlt (by rw [hb];exact hz) hE.out
      rw [hb] at this
      exact this)
     obtain ⟨ek,hek⟩:∃ x,x=errS S k:=⟨_,rfl⟩
     rw [← hek] at HP HC hz
     have b1:(ek==0)=false:=beq_eq_false_iff_ne.2 hz
     clear hek
     go_wp2_with fail
     refine (HC.out).mono ?_
     rintro e w2 ⟨rfl,hb2⟩
     have HS2:=hS.out.below hb2
     obtain ⟨x0,x1,x2,f0,f1,f2⟩:=HS2.el.three
     have HLW:=hid HS2.low
     have HEL:=hid HS2.el
     go_wp2
     have yy:=set_three HEL.out (.int .i64 3) (.int .i64 k) (.int .i64 0)
     obtain ⟨y0,y1,y2,_,_,_⟩:=yy.three
     refine bodyPost_ret (v:=.tuple #[.agg #[.int .i64 3,.int .i64 k,.int .i64 0],.int .i64 ek]) (by simp [results,Tryz.results27,go_sem,y0,y1,y2]) rfl ⟨by rw [HP.out];rfl,?_⟩
     exact below_three HLW.out (by omega) _ _ _
   ·have hke:k=S.ss.length:=by omega
    have hk2:¬ ((k:Int)<(S.ss.length:Int)):=by omega
    have HSA:=hid (show ∀ j,j<S.ss.length→(stopE S j).2=0 by have:=hE.out;rwa [hke] at this)
    have HST:=hS
    go_wp2
    clear hE hS hke hk2 hlt hk s0 s1 s2 s3
    go_loopw [12] (fun x wr=>∃ k:Nat,k≤S.cs.length∧x = .int .i64 k∧Hid (∀ j,j<k→errC S j=0)∧Hid (RSt w (.slice a1 S.ds.length c1) (.slice a2 S.rs.length c2) (.slice a3 S.ss.length c3) (.slice a4 S.cs.length c4) 69 #[.int .i64 0,.int .i64 0,.int .i64 0] wr)) (fun x _=>S.cs.length-(intOf x).toNat)
    case atStart=>exact ⟨0,by omega,rfl,hid (fun j hj=>by omega),HST⟩
    clear HST
    obtain ⟨k,hk,rfl,hE,hS⟩:=hrel
    obtain ⟨s0,s1,s2,s3⟩:=hS.out.spec.four
    by_cases hlt:k<S.cs.length
    ·have hk2:(k:Int)<(S.cs.length:Int):=by omega
     have HC:=hid (rcoupler_any _ _ _ _ S HOK.out k hlt f wr (HSP.out.later hS.out.low))
     by_cases hz:errC S k=0
     ·have HZ:=hid hz
      rw [hz] at HC
      clear hz
      go_wp2_with fail
      refine (HC.out).mono ?_
      rintro e w2 ⟨rfl,hb2⟩
      have HS2:=hid (hS.out.below hb2)
      go_wp2
      go_roundw
      case rel=>exact ⟨k+1,by omega,by go_num,hid (fun j hj=>by rcases Nat.lt_succ_iff_lt_or_eq.1 hj with h | h;exact hE.out j h;rw [h];exact HZ.out),HS2⟩
      case measure=>simp [intOf];omega
     ·have HP:=hid (checkP_c HLL.out HD.out HR.out HSA.out (fst0_some hlt hz hE.out))
      obtain ⟨ek,hek⟩:∃ x,x=errC S k:=⟨_,rfl⟩
      rw [← hek] at HP HC hz
      have b1:(ek==0)=false:=beq_eq_false_iff_ne.2 hz
      clear hek
      go_wp2_with fail
      refine (HC.out).mono ?_
      rintro e w2 ⟨rfl,hb2⟩
      have HS2:=hS.out.below hb2
      obtain ⟨x0,x1,x2,f0,f1,f2⟩:=HS2.el.three
      have HLW:=hid HS2.low
      have HEL:=hid HS2.el
      go_wp2
      have yy:=set_three HEL.out (.int .i64 4) (.int .i64 k) (.int .i64 0)
      obtain ⟨y0,y1,y2,_,_,_⟩:=yy.three
      refine bodyPost_ret (v:=.tuple #[.agg #[.int .i64 4,.int .i64 k,.int .i64 0],.int .i64 ek]) (by simp [results,Tryz.results27,go_sem,y0,y1,y2]) rfl ⟨by rw [HP.out];rfl,?_⟩
      exact below_three HLW.out (by omega) _ _ _
    ·have hke:k=S.cs.length:=by omega
     have hk2:¬ ((k:Int)<(S.cs.length:Int)):=by omega
     have HC0:=hid (show fst0 (errC S) S.cs.length=none from fst0_none.2 (by have:=hE.out;rwa [hke] at this))
     have HP:=hid (checkP_ok HLL.out HD.out HR.out HSA.out HC0.out)
     obtain ⟨x0,x1,x2,f0,f1,f2⟩:=hS.out.el.three
     have HLW:=hid hS.out.low
     have HEL:=hid hS.out.el
     go_wp2
     have yy:=set_three HEL.out (.int .i64 0) (.int .i64 0) (.int .i64 0)
     obtain ⟨y0,y1,y2,_,_,_⟩:=yy.three
     refine bodyPost_ret (v:=.tuple #[.agg #[.int .i64 0,.int .i64 0,.int .i64 0],.int .i64 0]) (by simp [results,Tryz.results27,go_sem,y0,y1,y2]) rfl ⟨by rw [HP.out];rfl,?_⟩
     exact below_three HLW.out (by omega) _ _ _
theorem rcheck_wk (v1 v2 v3 v4:Value) (S:Sp) (ok:SpWk S) (w:World) (f:Nat→Value) (hsp:SpRd w v1 v2 v3 v4 f S) :
  Calls Tryz.prog 27 #[.agg #[v1,v2,v3,v4]] w fun e w'=>e = .returned (ckV (checkP S))∧Below w.heap.size w w':=by
 obtain ⟨⟨a1,c1,rfl⟩,⟨a2,c2,rfl⟩,⟨a3,c3,rfl⟩,⟨a4,c4,rfl⟩⟩:=hsp.forms
 by_cases h:S.ds.length≤6∧S.rs.length≤40∧S.ss.length≤80∧S.cs.length≤24
 ·obtain ⟨l1,l2,l3,l4⟩:=h
  have ok:=ok.ok l1 l2 l3 l4
  exact rcheck_short a1 a2 a3 a4 c1 c2 c3 c4 S ok w f hsp l1 l2 l3 l4
 ·exact rcheck_long a1 a2 a3 a4 c1 c2 c3 c4 S w (by omega)
theorem rcheck_any (v1 v2 v3 v4:Value) (S:Sp) (ok:SpOk S) (w:World) (f:Nat→Value) (hsp:SpRd w v1 v2 v3 v4 f S) :
  Calls Tryz.prog 27 #[.agg #[v1,v2,v3,v4]] w fun e w'=>e = .returned (ckV (checkP S))∧Below w.heap.size w w':=rcheck_wk v1 v2 v3 v4 S ok.wk w f hsp
end Go.Proofs.YteflhbfgpknabaaGreatDoor
