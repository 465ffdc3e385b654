/-
  A part of the proof: C.
-/
import Derived.Test.YteflhbfgpknabaaGreatDoorL02
import Derived.Test.YteflhbfgpknabaaGreatDoorL01
import Derived.Test.YteflhbfgpknabaaGreatDoorL03
import Derived.Deep.QuietTactic
import Derived.BigQuiet
import Derived.StillTailTactics
import Derived.Deep.RegionHeld3
import Derived.RegionTactic
import Derived.ChangeAlike
import Derived.BigRegion
import Derived.Deep.RegionWith
set_option maxRecDepth 100000
set_option maxHeartbeats 12800000
namespace Go.Proofs.YteflhbfgpknabaaGreatDoor
open Go.Lib (hid)
open Go.RowKit
theorem within_yes (n a b:Int) (w:World) (h1:a≤n) (h2:n≤b):Calls Tryz.prog 123 #[.int .i64 n,.int .i64 a,.int .i64 b] w fun e w'=>e = .returned (.bool true)∧w=w':=by
 go_enter Tryz.func123,Tryz.ntmps123
 go_wp2
 go_ret
 exact ⟨rfl,rfl⟩
theorem within_no (n a b:Int) (w:World) (h:¬ (a≤n∧n≤b)):Calls Tryz.prog 123 #[.int .i64 n,.int .i64 a,.int .i64 b] w fun e w'=>e = .returned (.bool false)∧w=w':=by
 have h':n<a∨a≤n∧b<n:=by omega
 clear h
 rcases h' with h | ⟨h1,h2⟩
 ·have h3:¬ a≤n:=by omega
  go_enter Tryz.func123,Tryz.ntmps123
  go_wp2
  go_ret
  exact ⟨rfl,rfl⟩
 ·have h3:¬ n≤b:=by omega
  go_enter Tryz.func123,Tryz.ntmps123
  go_wp2
  go_ret
  exact ⟨rfl,rfl⟩
theorem footage_yes (n d:Int) (w:World) (t:Tabs w) (h:FeetOk n d):Calls Tryz.prog 124 #[.agg #[.int .i64 n,.int .i64 d]] w fun e w'=>e = .returned (.bool true)∧Below w.heap.size w w':=by
 have hb0:Below w.heap.size w (w.alloc (.cells #[.int .i64 n,.int .i64 d] 61)):=(Below.refl _ _).alloc (Nat.le_refl _) _
 have t0:=t.below hb0
 have hp1:((n.toNat:Nat):Int)=n:=by have:=h.2.2.1;omega
 have hp2:((d.toNat:Nat):Int)=d:=by have:=h.1;omega
 obtain ⟨f,hf⟩:=mkL (feetL n.toNat d.toNat)
 have C:=fun W T=>feet_yes n.toNat d.toNat f hf W T (by rw [hp1,hp2];exact h)
 rw [hp1,hp2] at C
 have CF:=hid C
 clear C hp1 hp2 h hf
 go_enter Tryz.func124,Tryz.ntmps124
 go_wp2_with fail
 refine (CF.out _ t0).mono ?_
 rintro e w1 ⟨rfl,hb⟩
 go_wp2
 go_ret
 exact ⟨rfl,below_step hb0 hb⟩
theorem footage_no (n d:Int) (w:World) (h:¬ FeetOk n d):Calls Tryz.prog 124 #[.agg #[.int .i64 n,.int .i64 d]] w fun e w'=>e = .returned (.bool false)∧Below w.heap.size w w':=by
 have hb0:Below w.heap.size w (w.alloc (.cells #[.int .i64 n,.int .i64 d] 61)):=(Below.refl _ _).alloc (Nat.le_refl _) _
 have CF:=hid (fun W=>feet_no n d W h)
 clear h
 go_enter Tryz.func124,Tryz.ntmps124
 go_wp2_with fail
 refine (CF.out _).mono ?_
 rintro e w1 ⟨rfl,hb⟩
 go_wp2
 go_ret
 exact ⟨rfl,below_step hb0 hb⟩
structure Chk (w:World) (Bc Bm n:Nat) (v1 v2 v3 v4:Value) (ks:List (List UInt8 × List UInt8)):Prop where
 blk:Blk w Bc 133 #[v1,v2,v3,v4,.map (some Bm)]
 seen:Seen Tryz.prog 9 4 w Bm n ks
 ne:Bc≠Bm
theorem Chk.below {w w':World} {Bc Bm n:Nat} {v1 v2 v3 v4:Value} {ks:List (List UInt8 × List UInt8)} (h:Chk w Bc Bm n v1 v2 v3 v4 ks) (hb:Below w.heap.size w w'):Chk w' Bc Bm n v1 v2 v3 v4 ks :=
 ⟨h.blk.below hb,h.seen.below hb,h.ne⟩
theorem Chk.cells {w:World} {Bc Bm n:Nat} {v1 v2 v3 v4:Value} {ks:List (List UInt8 × List UInt8)} (h:Chk w Bc Bm n v1 v2 v3 v4 ks):w.cell? ⟨Bc,0,none⟩=some v1∧w.cell? ⟨Bc,1,none⟩=some v2∧w.cell? ⟨Bc,2,none⟩=some v3∧w.cell? ⟨Bc,3,none⟩=some v4∧w.cell? ⟨Bc,4,none⟩=some (.map (some Bm)) :=
 ⟨h.blk.cell 0,h.blk.cell 1,h.blk.cell 2,h.blk.cell 3,h.blk.cell 4⟩
theorem zero_bool (w:World):(zeroValue 4).run Tryz.prog w = .ok (.bool false) w:=by kernel_rfl
theorem name_is (s:ByteArray) (b:Bool) (h:nameB (L s)=b) (w:World) (hs:s.size≤maxLen) :
  Calls Tryz.prog 125 #[.string s] w fun e w'=>e = .returned (.bool b)∧w=w' :=
 (name_any s w hs).mono fun _ _ ⟨he,hw⟩=>⟨by rw [he,h],hw⟩
theorem name_short {l:List UInt8} (h:nameB l=true):l.length≤16:=by
 unfold nameB at h
 simp only [Bool.and_eq_true,decide_eq_true_iff] at h
 exact h.1.1.2
theorem named_form (kb nm:ByteArray) (p:Value) (w:World) (hz:nm.size≤9223372036854775807) (h:nameB (L nm)=false) :
  Calls Tryz.prog 122 #[p,.string kb,.string nm] w fun e w'=>e = .returned (.int .i64 6)∧w=w':=by
 have CN:=hid (fun W=>name_is nm false h W (by unfold maxLen;omega))
 clear h
 go_enter Tryz.func122,Tryz.ntmps122
 go_wp2_with (go_at_call 125;refine (CN.out _).mono ?_;rintro e w' ⟨rfl,rfl⟩)
 go_ret
 exact ⟨rfl,rfl⟩
theorem named_twice (kb nm:ByteArray) (Bc Bm n:Nat) (v1 v2 v3 v4:Value) (ks:List (List UInt8 × List UInt8)) (w:World) (hc:Chk w Bc Bm n v1 v2 v3 v4 ks) (hk:kb.size≤1000) (hz:nm.size≤9223372036854775807) (h:nameB (L nm)=true) (hm:(L kb,L nm)∈ks) :
  Calls Tryz.prog 122 #[.pointer (some ⟨Bc,0,none⟩),.string kb,.string nm] w fun e w'=>e = .returned (.int .i64 8)∧w=w':=by
 replace hz:nm.size≤1000:=by have:=name_short h;rw [L_length] at this;omega
 have CN:=hid (fun W=>name_is nm true h W (by unfold maxLen;omega))
 obtain ⟨c0,c1,c2,c3,c4⟩:=hc.cells
 have hs:=hc.seen
 have h32:=name_no32 h
 have HK:=hid (show L (kb++⟨#[32]⟩++nm)=Key (L kb) (L nm) by rw [L_append,L_append,Key];simp [L])
 have HM:=hid (decide_eq_true hm)
 have p1:¬ 9223372036854775807<kb.size+1:=by omega
 have p2:¬ 9223372036854775807<kb.size+1+nm.size:=by omega
 have hz2:(kb++⟨#[32]⟩++nm).size≤maxLen:=by simp only [ByteArray.size_append,maxLen];have:(⟨#[32]⟩:ByteArray).size=1:=rfl;omega
 clear hm h
 go_enter Tryz.func122,Tryz.ntmps122
 go_wp2_with (first | (go_at_call 125;refine (CN.out _).mono ?_;rintro e w' ⟨rfl,rfl⟩) | (at_lookup;refine wpList_lookup_seen _ rfl _ _ 131 rfl 9 4 Tryz.underlying9 Tryz.underlying4 Tryz.underlying131 (zero_bool _) Bm n ks rfl hs _ rfl (L kb) (L nm) HK.out hz2 h32 ?_;rw [HM.out]))
 go_ret
 exact ⟨rfl,rfl⟩
theorem named_new (kb nm:ByteArray) (Bc Bm n:Nat) (v1 v2 v3 v4:Value) (ks:List (List UInt8 × List UInt8)) (w:World) (hc:Chk w Bc Bm n v1 v2 v3 v4 ks) (hn:n≤100000) (hk:kb.size≤1000) (hz:nm.size≤9223372036854775807) (h:nameB (L nm)=true) (hm:(L kb,L nm) ∉ ks) :
  Calls Tryz.prog 122 #[.pointer (some ⟨Bc,0,none⟩),.string kb,.string nm] w fun e w'=>e = .returned (.int .i64 0)∧Chk w' Bc Bm (n+1) v1 v2 v3 v4 ((L kb,L nm) :: ks)∧w.grownBy w' (some Bm):=by
 replace hz:nm.size≤1000:=by have:=name_short h;rw [L_length] at this;omega
 have CN:=hid (fun W=>name_is nm true h W (by unfold maxLen;omega))
 obtain ⟨c0,c1,c2,c3,c4⟩:=hc.cells
 have hs:=hc.seen
 have h32:=name_no32 h
 have HK:=hid (show L (kb++⟨#[32]⟩++nm)=Key (L kb) (L nm) by rw [L_append,L_append,Key];simp [L])
 have HM:=hid (decide_eq_false hm)
 have p1:¬ 9223372036854775807<kb.size+1:=by omega
 have p2:¬ 9223372036854775807<kb.size+1+nm.size:=by omega
 have hz2:(kb++⟨#[32]⟩++nm).size≤maxLen:=by simp only [ByteArray.size_append,maxLen];have:(⟨#[32]⟩:ByteArray).size=1:=rfl;omega
 clear hm h
 go_enter Tryz.func122,Tryz.ntmps122
 go_wp2_with (first | (go_at_call 125;refine (CN.out _).mono ?_;rintro e w' ⟨rfl,rfl⟩) | (at_lookup;refine wpList_lookup_seen _ rfl _ _ 131 rfl 9 4 Tryz.underlying9 Tryz.underlying4 Tryz.underlying131 (zero_bool _) Bm n ks rfl hs _ rfl (L kb) (L nm) HK.out hz2 h32 ?_;rw [HM.out]) | (at_mapUpdate;refine wpList_update_seen _ rfl _ _ _ 131 rfl 9 4 Tryz.underlying9 Tryz.underlying4 Tryz.underlying131 Bm n ks rfl hs (by unfold maxLen;omega) _ rfl rfl (L kb) (L nm) HK.out hz2 h32 ?_;intro w1 hs1 hg1))
 go_ret
 refine ⟨rfl,⟨?_,hs1,hc.ne⟩,hg1⟩
 exact (hg1.block Bc hc.blk.lt (fun e=>hc.ne (Option.some.inj e))).trans hc.blk
theorem only_below {a w w':World} {r:Nat} (h:a.grownBy w (some r)) (hb:Below a.heap.size w w'):a.grownBy w' (some r) :=
 ⟨hb.os.trans h.os,hb.tape.trans h.tape,hb.output.trans h.output,Nat.le_trans h.size hb.size,fun i hi hne=>(hb.block i hi).trans (h.block i hi hne)⟩
theorem only_trans {a b c:World} {r:Nat} (h:a.grownBy b (some r)) (k:b.grownBy c (some r)):a.grownBy c (some r) :=
 ⟨k.os.trans h.os,k.tape.trans h.tape,k.output.trans h.output,Nat.le_trans h.size k.size,fun i hi hne=>(k.block i (Nat.lt_of_lt_of_le hi h.size) hne).trans (h.block i hi hne)⟩
theorem only_of {w w':World} (r:Nat) (hb:Below w.heap.size w w'):w.grownBy w' (some r):=only_below (World.grownBy.refl _ _) hb
theorem only_trail {a b c:World} {r:Nat} (h:a.grownBy b (some r)) (hb:Below b.heap.size b c):a.grownBy c (some r):=only_trans h (only_of r hb)
theorem Blk.kept {W W':World} {B:Nat} {t:TypeId} {cs:Array Value} {row:Option Nat} (h:Blk W B t cs) (hg:W.grownBy W' row) (hne:some B≠row):Blk W' B t cs:=(hg.block B h.lt hne).trans h
def dvK:List UInt8:=[100,105,118,105,115,105,111,110]
def rkK:List UInt8:=[114,97,110,107]
def cpK:List UInt8:=[99,111,117,112,108,101,114]
def seenE (k:List UInt8) (nm:ByteArray) (ks:List (List UInt8 × List UInt8)) (next:Int):Int:=if nameB (L nm)=false then 6 else if (k,L nm)∈ks then 8 else next
theorem seenE_form {k:List UInt8} {nm:ByteArray} {ks:List (List UInt8 × List UInt8)} {n:Int} (h:nameB (L nm)=false):seenE k nm ks n=6:=by unfold seenE;rw [if_pos h]
theorem seenE_twice {k:List UInt8} {nm:ByteArray} {ks:List (List UInt8 × List UInt8)} {n:Int} (h:nameB (L nm)=true) (hm:(k,L nm)∈ks):seenE k nm ks n=8:=by unfold seenE;rw [if_neg (by rw [h];decide),if_pos hm]
theorem seenE_next {k:List UInt8} {nm:ByteArray} {ks:List (List UInt8 × List UInt8)} {n:Int} (h:nameB (L nm)=true) (hm:(k,L nm) ∉ ks):seenE k nm ks n=n:=by unfold seenE;rw [if_neg (by rw [h];decide),if_neg hm]
def CkEnds (Bc Bm n:Nat) (v1 v2 v3 v4:Value) (k nm:List UInt8) (ks:List (List UInt8 × List UInt8)) (E:Int) (w:World) (e:Ending) (w':World):Prop :=
 e = .returned (.int .i64 E)∧w.grownBy w' (some Bm)∧(E=0→Chk w' Bc Bm (n+1) v1 v2 v3 v4 ((k,nm) :: ks))
theorem ckEnds_bad {Bc Bm n:Nat} {v1 v2 v3 v4:Value} {k nm:List UInt8} {ks:List (List UInt8 × List UInt8)} {E x:Int} {w w':World} (hx:E=x) (h0:x≠0) (hg:w.grownBy w' (some Bm)):CkEnds Bc Bm n v1 v2 v3 v4 k nm ks E w (.returned (.int .i64 x)) w' :=
 ⟨by rw [hx],hg,fun h=>absurd (hx.symm.trans h) h0⟩
theorem ckEnds_good {Bc Bm n:Nat} {v1 v2 v3 v4:Value} {k nm:List UInt8} {ks:List (List UInt8 × List UInt8)} {E:Int} {w w':World} (hx:E=0) (hg:w.grownBy w' (some Bm)) (hc:Chk w' Bc Bm (n+1) v1 v2 v3 v4 ((k,nm) :: ks)):CkEnds Bc Bm n v1 v2 v3 v4 k nm ks E w (.returned (.int .i64 0)) w' :=
 ⟨by rw [hx],hg,fun _=>hc⟩
theorem division_any (d:Dv) (Bc Bm n:Nat) (v1 v2 v3 v4:Value) (ks:List (List UInt8 × List UInt8)) (w:World) (hc:Chk w Bc Bm n v1 v2 v3 v4 ks) (hn:n≤100000) (hz:d.name.size≤9223372036854775807) :
  Calls Tryz.prog 84 #[.pointer (some ⟨Bc,0,none⟩),.agg #[.string d.name,.int .i64 d.lo,.int .i64 d.hi]] w (CkEnds Bc Bm n v1 v2 v3 v4 dvK (L d.name) ks (seenE dvK d.name ks (dvE d)) w):=by
 have hb0:Below w.heap.size w (w.alloc (.cells #[.string d.name,.int .i64 d.lo,.int .i64 d.hi] 109)):=(Below.refl _ _).alloc (Nat.le_refl _) _
 have hc0:=hc.below hb0
 have k0:Blk (w.alloc (.cells #[.string d.name,.int .i64 d.lo,.int .i64 d.hi] 109)) w.heap.size 109 #[.string d.name,.int .i64 d.lo,.int .i64 d.hi]:=Blk.new _ _ _
 have hg0:w.grownBy (w.alloc (.cells #[.string d.name,.int .i64 d.lo,.int .i64 d.hi] 109)) (some Bm):=only_of Bm hb0
 have hkb:(⟨#[100,105,118,105,115,105,111,110]⟩:ByteArray).size≤1000:=by decide
 have hmlt:=hc.seen.lt
 cases hnm:nameB (L d.name) with
 | false =>
  have HE:=hid (seenE_form (k:=dvK) (ks:=ks) (n:=dvE d) hnm)
  have CN:=hid (fun W=>named_form ⟨#[100,105,118,105,115,105,111,110]⟩ d.name (.pointer (some ⟨Bc,0,none⟩)) W hz hnm)
  clear hnm
  go_enter Tryz.func84,Tryz.ntmps84
  go_wp2_with (go_at_call 122;with_reducible refine (CN.out _).mono ?_;rintro e w' ⟨rfl,rfl⟩)
  go_ret
  exact ckEnds_bad HE.out (by decide) hg0
 | true =>
  by_cases hm:(dvK,L d.name)∈ks
  ·have HE:=hid (seenE_twice (n:=dvE d) hnm hm)
   have CN:=hid (named_twice ⟨#[100,105,118,105,115,105,111,110]⟩ d.name Bc Bm n v1 v2 v3 v4 ks _ hc0 hkb hz hnm hm)
   clear hnm hm
   go_enter Tryz.func84,Tryz.ntmps84
   go_wp2_with (go_at_call 122;with_reducible refine (CN.out).mono ?_;rintro e w' ⟨rfl,rfl⟩)
   go_ret
   exact ckEnds_bad HE.out (by decide) hg0
  ·have HE:=hid (seenE_next (n:=dvE d) hnm hm)
   have CN:=hid (named_new ⟨#[100,105,118,105,115,105,111,110]⟩ d.name Bc Bm n v1 v2 v3 v4 ks _ hc0 hn hkb hz hnm hm)
   clear hnm hm
   by_cases h1:0≤d.lo∧d.lo≤127
   ·obtain ⟨h1a,h1b⟩:=h1
    have W1:=hid (fun W=>within_yes d.lo 0 127 W h1a h1b)
    by_cases h2:d.lo≤d.hi∧d.hi≤min 127 (d.lo+61-1)
    ·have W2:=hid (fun W=>within_yes d.hi d.lo (min 127 (d.lo+61-1)) W h2.1 h2.2)
     have HD:=hid (show dvE d=0 by unfold dvE;rw [if_pos (by omega)])
     clear h2
     go_enter Tryz.func84,Tryz.ntmps84
     go_wp2_with (go_at_call 122;with_reducible refine (CN.out).mono ?_;rintro e w1 ⟨rfl,hc1,hg1⟩;have hgw:=only_trans hg0 hg1;have k1:=k0.kept hg1 (fun e=>by have:=Option.some.inj e;omega);have x0:=k1.cell 0;have x1:=k1.cell 1;have x2:=k1.cell 2)
     go_wp2_with (first | (go_at_call 123;with_reducible refine (W1.out _).mono ?_;rintro e w' ⟨rfl,rfl⟩) | (go_at_call 123;with_reducible refine (W2.out _).mono ?_;rintro e w' ⟨rfl,rfl⟩))
     go_ret
     exact ckEnds_good (HE.out.trans HD.out) hgw hc1
    ·have W2:=hid (fun W=>within_no d.hi d.lo (min 127 (d.lo+61-1)) W h2)
     have HD:=hid (show dvE d=7 by unfold dvE;rw [if_neg (by omega)])
     clear h2
     go_enter Tryz.func84,Tryz.ntmps84
     go_wp2_with (go_at_call 122;with_reducible refine (CN.out).mono ?_;rintro e w1 ⟨rfl,hc1,hg1⟩;have hgw:=only_trans hg0 hg1;have k1:=k0.kept hg1 (fun e=>by have:=Option.some.inj e;omega);have x0:=k1.cell 0;have x1:=k1.cell 1;have x2:=k1.cell 2)
     go_wp2_with (first | (go_at_call 123;with_reducible refine (W1.out _).mono ?_;rintro e w' ⟨rfl,rfl⟩) | (go_at_call 123;with_reducible refine (W2.out _).mono ?_;rintro e w' ⟨rfl,rfl⟩))
     go_ret
     exact ckEnds_bad (HE.out.trans HD.out) (by decide) hgw
   ·have W1:=hid (fun W=>within_no d.lo 0 127 W h1)
    have HD:=hid (show dvE d=7 by unfold dvE;rw [if_neg (by omega)])
    clear h1
    go_enter Tryz.func84,Tryz.ntmps84
    go_wp2_with (go_at_call 122;with_reducible refine (CN.out).mono ?_;rintro e w1 ⟨rfl,hc1,hg1⟩;have hgw:=only_trans hg0 hg1;have k1:=k0.kept hg1 (fun e=>by have:=Option.some.inj e;omega);have x0:=k1.cell 0;have x1:=k1.cell 1;have x2:=k1.cell 2)
    go_wp2_with (go_at_call 123;with_reducible refine (W1.out _).mono ?_;rintro e w' ⟨rfl,rfl⟩)
    go_ret
    exact ckEnds_bad (HE.out.trans HD.out) (by decide) hgw
theorem rank_any (r:Rk) (Bc Bm n:Nat) (v1 v2 v3 v4:Value) (ks:List (List UInt8 × List UInt8)) (w:World) (t:Tabs w) (hr:TabLt Bm) (hc:Chk w Bc Bm n v1 v2 v3 v4 ks) (hn:n≤100000) (hz:r.name.size≤9223372036854775807) :
  Calls Tryz.prog 86 #[.pointer (some ⟨Bc,0,none⟩),.agg #[.string r.name,.int .i64 r.kind,.int .i64 r.num,.int .i64 r.den,.int .i64 r.low,.int .i64 r.cnt]] w (CkEnds Bc Bm n v1 v2 v3 v4 rkK (L r.name) ks (seenE rkK r.name ks (rkE r)) w):=by
 have hb0:Below w.heap.size w (w.alloc (.cells #[.string r.name,.int .i64 r.kind,.int .i64 r.num,.int .i64 r.den,.int .i64 r.low,.int .i64 r.cnt] 63)):=(Below.refl _ _).alloc (Nat.le_refl _) _
 have hc0:=hc.below hb0
 have k0:Blk (w.alloc (.cells #[.string r.name,.int .i64 r.kind,.int .i64 r.num,.int .i64 r.den,.int .i64 r.low,.int .i64 r.cnt] 63)) w.heap.size 63 #[.string r.name,.int .i64 r.kind,.int .i64 r.num,.int .i64 r.den,.int .i64 r.low,.int .i64 r.cnt]:=Blk.new _ _ _
 have hg0:w.grownBy (w.alloc (.cells #[.string r.name,.int .i64 r.kind,.int .i64 r.num,.int .i64 r.den,.int .i64 r.low,.int .i64 r.cnt] 63)) (some Bm):=only_of Bm hb0
 have hkb:(⟨#[114,97,110,107]⟩:ByteArray).size≤1000:=by decide
 have hmlt:=hc.seen.lt
 have t0:=t.below hb0
 cases hnm:nameB (L r.name) with
 | false =>
  have HE:=hid (seenE_form (k:=rkK) (ks:=ks) (n:=rkE r) hnm)
  have CN:=hid (fun W=>named_form ⟨#[114,97,110,107]⟩ r.name (.pointer (some ⟨Bc,0,none⟩)) W hz hnm)
  clear hnm
  go_enter Tryz.func86,Tryz.ntmps86
  go_wp2_with (go_at_call 122;with_reducible refine (CN.out _).mono ?_;rintro e w' ⟨rfl,rfl⟩)
  go_ret
  exact ckEnds_bad HE.out (by decide) hg0
 | true =>
  by_cases hm:(rkK,L r.name)∈ks
  ·have HE:=hid (seenE_twice (n:=rkE r) hnm hm)
   have CN:=hid (named_twice ⟨#[114,97,110,107]⟩ r.name Bc Bm n v1 v2 v3 v4 ks _ hc0 hkb hz hnm hm)
   clear hnm hm
   go_enter Tryz.func86,Tryz.ntmps86
   go_wp2_with (go_at_call 122;with_reducible refine (CN.out).mono ?_;rintro e w' ⟨rfl,rfl⟩)
   go_ret
   exact ckEnds_bad HE.out (by decide) hg0
  ·have HE:=hid (seenE_next (n:=rkE r) hnm hm)
   have CN:=hid (named_new ⟨#[114,97,110,107]⟩ r.name Bc Bm n v1 v2 v3 v4 ks _ hc0 hn hkb hz hnm hm)
   clear hnm hm
   by_cases h1:1≤r.kind∧r.kind≤4
   ·obtain ⟨h1a,h1b⟩:=h1
    have W1:=hid (fun W=>within_yes r.kind 1 4 W h1a h1b)
    by_cases h2:FeetOk r.num r.den
    ·have F1:=hid (fun W T=>footage_yes r.num r.den W T h2)
     by_cases h3:1≤r.cnt∧r.cnt≤97
     ·obtain ⟨h3a,h3b⟩:=h3
      have W2:=hid (fun W=>within_yes r.cnt 1 97 W h3a h3b)
      by_cases h4:0≤r.low∧r.low≤128-r.cnt
      ·have W3:=hid (fun W=>within_yes r.low 0 (128-r.cnt) W h4.1 h4.2)
       have HD:=hid (show rkE r=0 by unfold rkE;rw [if_pos ⟨h1a,h1b,h2⟩,if_pos (by omega)])
       clear h2 h4
       go_enter Tryz.func86,Tryz.ntmps86
       go_wp2_with (go_at_call 122;with_reducible refine (CN.out).mono ?_;rintro e w1 ⟨rfl,hc1,hg1⟩;have hgw:=only_trans hg0 hg1;have k1:=k0.kept hg1 (fun e=>by have:=Option.some.inj e;omega);have x0:=k1.cell 0;have x1:=k1.cell 1;have x2:=k1.cell 2;have x3:=k1.cell 3;have x4:=k1.cell 4;have x5:=k1.cell 5)
       have t1:Tabs w1:=t.grown hr hgw
       go_wp2_with (first | (go_at_call 123;with_reducible refine (W1.out _).mono ?_;rintro e w' ⟨rfl,rfl⟩) | (go_at_call 124;with_reducible refine (F1.out _ (by assumption)).mono ?_;rintro e w2 ⟨rfl,hb2⟩;have hgw2:=only_trail hgw hb2;have k2:=k1.below hb2;have hc2:=hc1.below hb2;have y0:=k2.cell 0;have y1:=k2.cell 1;have y2:=k2.cell 2;have y3:=k2.cell 3;have y4:=k2.cell 4;have y5:=k2.cell 5) | (go_at_call 123;with_reducible refine (W2.out _).mono ?_;rintro e w' ⟨rfl,rfl⟩) | (go_at_call 123;with_reducible refine (W3.out _).mono ?_;rintro e w' ⟨rfl,rfl⟩))
       go_ret
       exact ckEnds_good (HE.out.trans HD.out) hgw2 hc2
      ·have W3:=hid (fun W=>within_no r.low 0 (128-r.cnt) W h4)
       have HD:=hid (show rkE r=7 by unfold rkE;rw [if_pos ⟨h1a,h1b,h2⟩,if_neg (by omega)])
       clear h2 h4
       go_enter Tryz.func86,Tryz.ntmps86
       go_wp2_with (go_at_call 122;with_reducible refine (CN.out).mono ?_;rintro e w1 ⟨rfl,hc1,hg1⟩;have hgw:=only_trans hg0 hg1;have k1:=k0.kept hg1 (fun e=>by have:=Option.some.inj e;omega);have x0:=k1.cell 0;have x1:=k1.cell 1;have x2:=k1.cell 2;have x3:=k1.cell 3;have x4:=k1.cell 4;have x5:=k1.cell 5)
       have t1:Tabs w1:=t.grown hr hgw
       go_wp2_with (first | (go_at_call 123;with_reducible refine (W1.out _).mono ?_;rintro e w' ⟨rfl,rfl⟩) | (go_at_call 124;with_reducible refine (F1.out _ (by assumption)).mono ?_;rintro e w2 ⟨rfl,hb2⟩;have hgw2:=only_trail hgw hb2;have k2:=k1.below hb2;have hc2:=hc1.below hb2;have y0:=k2.cell 0;have y1:=k2.cell 1;have y2:=k2.cell 2;have y3:=k2.cell 3;have y4:=k2.cell 4;have y5:=k2.cell 5) | (go_at_call 123;with_reducible refine (W2.out _).mono ?_;rintro e w' ⟨rfl,rfl⟩) | (go_at_call 123;with_reducible refine (W3.out _).mono ?_;rintro e w' ⟨rfl,rfl⟩))
       go_ret
       exact ckEnds_bad (HE.out.trans HD.out) (by decide) hgw2
     ·have W2:=hid (fun W=>within_no r.cnt 1 97 W h3)
      have HD:=hid (show rkE r=7 by unfold rkE;rw [if_pos ⟨h1a,h1b,h2⟩,if_neg (by omega)])
      clear h2 h3
      go_enter Tryz.func86,Tryz.ntmps86
      go_wp2_with (go_at_call 122;with_reducible refine (CN.out).mono ?_;rintro e w1 ⟨rfl,hc1,hg1⟩;have hgw:=only_trans hg0 hg1;have k1:=k0.kept hg1 (fun e=>by have:=Option.some.inj e;omega);have x0:=k1.cell 0;have x1:=k1.cell 1;have x2:=k1.cell 2;have x3:=k1.cell 3;have x4:=k1.cell 4;have x5:=k1.cell 5)
      have t1:Tabs w1:=t.grown hr hgw
      go_wp2_with (first | (go_at_call 123;with_reducible refine (W1.out _).mono ?_;rintro e w' ⟨rfl,rfl⟩) | (go_at_call 124;with_reducible refine (F1.out _ (by assumption)).mono ?_;rintro e w2 ⟨rfl,hb2⟩;have hgw2:=only_trail hgw hb2;have k2:=k1.below hb2;have hc2:=hc1.below hb2;have y0:=k2.cell 0;have y1:=k2.cell 1;have y2:=k2.cell 2;have y3:=k2.cell 3;have y4:=k2.cell 4;have y5:=k2.cell 5) | (go_at_call 123;with_reducible refine (W2.out _).mono ?_;rintro e w' ⟨rfl,rfl⟩))
      go_ret
      exact ckEnds_bad (HE.out.trans HD.out) (by decide) hgw2
    ·have F1:=hid (fun W=>footage_no r.num r.den W h2)
     have HD:=hid (show rkE r=2 by unfold rkE;rw [if_neg (fun h=>h2 h.2.2)])
     clear h2
     go_enter Tryz.func86,Tryz.ntmps86
     go_wp2_with (go_at_call 122;with_reducible refine (CN.out).mono ?_;rintro e w1 ⟨rfl,hc1,hg1⟩;have hgw:=only_trans hg0 hg1;have k1:=k0.kept hg1 (fun e=>by have:=Option.some.inj e;omega);have x0:=k1.cell 0;have x1:=k1.cell 1;have x2:=k1.cell 2;have x3:=k1.cell 3;have x4:=k1.cell 4;have x5:=k1.cell 5)
     have t1:Tabs w1:=t.grown hr hgw
     go_wp2_with (first | (go_at_call 123;with_reducible refine (W1.out _).mono ?_;rintro e w' ⟨rfl,rfl⟩) | (go_at_call 124;with_reducible refine (F1.out _).mono ?_;rintro e w2 ⟨rfl,hb2⟩;have hgw2:=only_trail hgw hb2;have k2:=k1.below hb2;have hc2:=hc1.below hb2;have y0:=k2.cell 0;have y1:=k2.cell 1;have y2:=k2.cell 2;have y3:=k2.cell 3;have y4:=k2.cell 4;have y5:=k2.cell 5))
     go_ret
     exact ckEnds_bad (HE.out.trans HD.out) (by decide) hgw2
   ·have W1:=hid (fun W=>within_no r.kind 1 4 W h1)
    have HD:=hid (show rkE r=2 by unfold rkE;rw [if_neg (fun h=>h1 ⟨h.1,h.2.1⟩)])
    clear h1
    go_enter Tryz.func86,Tryz.ntmps86
    go_wp2_with (go_at_call 122;with_reducible refine (CN.out).mono ?_;rintro e w1 ⟨rfl,hc1,hg1⟩;have hgw:=only_trans hg0 hg1;have k1:=k0.kept hg1 (fun e=>by have:=Option.some.inj e;omega);have x0:=k1.cell 0;have x1:=k1.cell 1;have x2:=k1.cell 2;have x3:=k1.cell 3;have x4:=k1.cell 4;have x5:=k1.cell 5)
    have t1:Tabs w1:=t.grown hr hgw
    go_wp2_with (go_at_call 123;with_reducible refine (W1.out _).mono ?_;rintro e w' ⟨rfl,rfl⟩)
    go_ret
    exact ckEnds_bad (HE.out.trans HD.out) (by decide) hgw
theorem within_yes' (n a b:Int) (w:World) (h1:a≤n) (h2:n≤b):Calls Tryz.prog 123 #[.int .i64 n,.int .i64 a,.int .i64 b] w fun e w'=>e = .returned (.bool true)∧w'=w:=(within_yes n a b w h1 h2).mono fun _ _ ⟨h,k⟩=>⟨h,k.symm⟩
theorem within_no' (n a b:Int) (w:World) (h:¬ (a≤n∧n≤b)):Calls Tryz.prog 123 #[.int .i64 n,.int .i64 a,.int .i64 b] w fun e w'=>e = .returned (.bool false)∧w'=w:=(within_no n a b w h).mono fun _ _ ⟨h,k⟩=>⟨h,k.symm⟩
theorem part_norank (S:Sp) (x:St) (d:Dv) (p:Pt) (Bc Bm n:Nat) (a2:Option Addr) (c2:Nat) (v1 v3 v4:Value) (ks:List (List UInt8 × List UInt8)) (w:World) (hc:Chk w Bc Bm n v1 (.slice a2 S.rs.length c2) v3 v4 ks) (hs:S.rs.length≤1000) (h:¬ (0≤p.rank∧p.rank<S.rs.length)) :
  Calls Tryz.prog 89 #[.pointer (some ⟨Bc,0,none⟩),.agg #[.string d.name,.int .i64 d.lo,.int .i64 d.hi],.agg #[.int .i64 p.rank,.int .i64 p.shift,.int .i64 p.lo,.int .i64 p.hi]] w fun e w'=>e = .returned (.int .i64 (ptE S x p))∧Below w.heap.size w w':=by
 have hb0:Below w.heap.size w ((w.alloc (.cells #[.string d.name,.int .i64 d.lo,.int .i64 d.hi] 109)).alloc (.cells #[.int .i64 p.rank,.int .i64 p.shift,.int .i64 p.lo,.int .i64 p.hi] 105)):=((Below.refl _ w).alloc (Nat.le_refl _) _).alloc (by simp) _
 have hc0:=hc.below hb0
 have W1:=fun W=>within_no' p.rank 0 ((S.rs.length:Int)-1) W (by omega)
 have HD:=hid (ptE_none (S:=S) (x:=x) h)
 obtain ⟨z0,z1,z2,z3,z4⟩:=hc0.cells
 have hcast:((S.rs.length:Nat):Int)≤1000:=by omega
 clear h
 go_enter Tryz.func89,Tryz.ntmps89
 go_wp2_with fail
 go_quiet ((go_at_call 123;exact Calls.quiet_of_same (W1 _)))
 go_wp2
 go_ret
 exact ⟨by rw [HD.out];rfl,below_drewN hb0 _⟩
theorem part_ways (S:Sp) (x:St) (d:Dv) (p:Pt) (Bc Bm n:Nat) (v1 v2 v3 v4:Value) (f:Nat→Value) (ks:List (List UInt8 × List UInt8)) (w:World) (hc:Chk w Bc Bm n v1 v2 v3 v4 ks) (hsp:SpRd w v1 v2 v3 v4 f S) (hs:S.rs.length≤1000)
  (hd:x.div.toNat<S.ds.length) (hdd:S.ds[x.div.toNat]=d) (hdv:dvE d=0) (hrv:∀ r∈S.rs,rkE r=0) (hp1:0≤p.rank) (hp2:p.rank<S.rs.length) :
  Calls Tryz.prog 89 #[.pointer (some ⟨Bc,0,none⟩),.agg #[.string d.name,.int .i64 d.lo,.int .i64 d.hi],.agg #[.int .i64 p.rank,.int .i64 p.shift,.int .i64 p.lo,.int .i64 p.hi]] w fun e w'=>e = .returned (.int .i64 (ptE S x p))∧Below w.heap.size w w':=by
 have hb0:Below w.heap.size w ((w.alloc (.cells #[.string d.name,.int .i64 d.lo,.int .i64 d.hi] 109)).alloc (.cells #[.int .i64 p.rank,.int .i64 p.shift,.int .i64 p.lo,.int .i64 p.hi] 105)):=((Below.refl _ w).alloc (Nat.le_refl _) _).alloc (by simp) _
 have hc0:=hc.below hb0
 have hsp0:=hsp.later hb0
 obtain ⟨i,hi⟩:=Int.eq_ofNat_of_zero_le hp1
 have hil:i<S.rs.length:=by omega
 have HP:=ptE_is hd hp1 hp2
 have hti:p.rank.toNat=i:=by omega
 obtain ⟨b,o,c2,rfl,hlt,r0,r1,r2,r3,r4,r5⟩:=hsp0.rAt i hil
 have hrk:=hrv S.rs[i] (List.getElem_mem hil)
 simp only [hti] at HP
 rw [hdd] at HP
 generalize S.rs[i]=r at *
 obtain ⟨z0,z1,z2,z3,z4⟩:=hc0.cells
 have hcast:((S.rs.length:Nat):Int)≤1000:=by omega
 have W1:=fun W=>within_yes' (i:Int) 0 ((S.rs.length:Int)-1) W (by omega) (by omega)
 have HPP:=hid HP
 have hi1:(0:Int)≤(i:Int):=by omega
 have hi2:(i:Int)<(S.rs.length:Int):=by omega
 have hb1:0≤d.lo∧d.lo≤127∧d.hi≤127:=by unfold dvE at hdv;split at hdv <;> omega
 have hb2:0≤r.low∧r.low+r.cnt≤128∧1≤r.cnt:=by
  unfold rkE at hrk
  split at hrk
  ·split at hrk
   ·omega
   ·omega
  ·omega
 obtain ⟨pr,ps,pl,ph⟩:=p
 dsimp only at *
 subst hi
 have hmove:=hb0
 have kd:Blk ((w.alloc (.cells #[.string d.name,.int .i64 d.lo,.int .i64 d.hi] 109)).alloc (.cells #[.int .i64 i,.int .i64 ps,.int .i64 pl,.int .i64 ph] 105)) w.heap.size 109 #[.string d.name,.int .i64 d.lo,.int .i64 d.hi]:=(Blk.new w _ _).alloc _
 have kp:Blk ((w.alloc (.cells #[.string d.name,.int .i64 d.lo,.int .i64 d.hi] 109)).alloc (.cells #[.int .i64 i,.int .i64 ps,.int .i64 pl,.int .i64 ph] 105)) (w.heap.size+1) 105 #[.int .i64 i,.int .i64 ps,.int .i64 pl,.int .i64 ph]:=by have:=Blk.new (w.alloc (.cells #[.string d.name,.int .i64 d.lo,.int .i64 d.hi] 109)) 105 #[.int .i64 i,.int .i64 ps,.int .i64 pl,.int .i64 ph];rwa [World.size_alloc] at this
 by_cases h1:d.lo≤pl∧pl≤d.hi
 ·have W2:=hid (fun W=>within_yes pl d.lo d.hi W h1.1 h1.2)
  by_cases h2:pl≤ph∧ph≤d.hi
  ·have W3:=hid (fun W=>within_yes ph pl d.hi W h2.1 h2.2)
   by_cases h3 : -96≤ps∧ps≤96
   ·have W4:=hid (fun W=>within_yes ps (-96) 96 W h3.1 h3.2)
    clear HP hdv hrk hrv hti hsp hsp0 hdd
    have q1 : -9223372036854775808≤pl+ps:=by omega
    go_enter Tryz.func89,Tryz.ntmps89
    go_wp2_with fail
    go_quiet ((go_at_call 123;exact Calls.quiet_of_same (W1 _)))
    go_wp2_with (first | (go_at_call 123;with_reducible refine (W2.out _).mono ?_;rintro e w' ⟨rfl,rfl⟩) | (go_at_call 123;with_reducible refine (W3.out _).mono ?_;rintro e w' ⟨rfl,rfl⟩) | (go_at_call 123;with_reducible refine (W4.out _).mono ?_;rintro e w' ⟨rfl,rfl⟩))
    have hB:=below_drewN hb0 nq
    have kd1:=kd.drewN nq
    have kp1:=kp.drewN nq
    have kc1:=hc0.blk.drewN nq
    have y0:(((w.alloc (.cells #[.string d.name,.int .i64 d.lo,.int .i64 d.hi] 109)).alloc (.cells #[.int .i64 i,.int .i64 ps,.int .i64 pl,.int .i64 ph] 105)).drewN nq).cell? ⟨b,o+i * 6,none⟩=some (.string r.name):=r0
    have y1:(((w.alloc (.cells #[.string d.name,.int .i64 d.lo,.int .i64 d.hi] 109)).alloc (.cells #[.int .i64 i,.int .i64 ps,.int .i64 pl,.int .i64 ph] 105)).drewN nq).cell? ⟨b,o+i * 6+1,none⟩=some (.int .i64 r.kind):=r1
    have y2:(((w.alloc (.cells #[.string d.name,.int .i64 d.lo,.int .i64 d.hi] 109)).alloc (.cells #[.int .i64 i,.int .i64 ps,.int .i64 pl,.int .i64 ph] 105)).drewN nq).cell? ⟨b,o+i * 6+2,none⟩=some (.int .i64 r.num):=r2
    have y3:(((w.alloc (.cells #[.string d.name,.int .i64 d.lo,.int .i64 d.hi] 109)).alloc (.cells #[.int .i64 i,.int .i64 ps,.int .i64 pl,.int .i64 ph] 105)).drewN nq).cell? ⟨b,o+i * 6+3,none⟩=some (.int .i64 r.den):=r3
    have y4:(((w.alloc (.cells #[.string d.name,.int .i64 d.lo,.int .i64 d.hi] 109)).alloc (.cells #[.int .i64 i,.int .i64 ps,.int .i64 pl,.int .i64 ph] 105)).drewN nq).cell? ⟨b,o+i * 6+4,none⟩=some (.int .i64 r.low):=r4
    have y5:(((w.alloc (.cells #[.string d.name,.int .i64 d.lo,.int .i64 d.hi] 109)).alloc (.cells #[.int .i64 i,.int .i64 ps,.int .i64 pl,.int .i64 ph] 105)).drewN nq).cell? ⟨b,o+i * 6+5,none⟩=some (.int .i64 r.cnt):=r5
    have hbl:b<(((w.alloc (.cells #[.string d.name,.int .i64 d.lo,.int .i64 d.hi] 109)).alloc (.cells #[.int .i64 i,.int .i64 ps,.int .i64 pl,.int .i64 ph] 105)).drewN nq).heap.size:=hlt
    generalize ((w.alloc (.cells #[.string d.name,.int .i64 d.lo,.int .i64 d.hi] 109)).alloc (.cells #[.int .i64 i,.int .i64 ps,.int .i64 pl,.int .i64 ph] 105)).drewN nq=w1 at *
    have l1:=kd1.lt
    have l2:=kp1.lt
    have l3:=kc1.lt
    have e0:=kd1.cell 0
    have e1:=kd1.cell 1
    have e2:=kd1.cell 2
    have g0:=kp1.cell 0
    have g1:=kp1.cell 1
    have g2:=kp1.cell 2
    have g3:=kp1.cell 3
    have m1:=kc1.cell 1
    clear z0 z1 z2 z3 z4 r0 r1 r2 r3 r4 r5 hc0 kd kp kd1 kp1 kc1 hb0 hmove hlt
    go_region
    all_goals go_wp2
    all_goals go_ret
    all_goals
     refine ⟨?_,by first | exact below_drewN (hB.alloc hB.size _) _ | exact (hB.alloc hB.size _).drew | exact hB.alloc hB.size _⟩
     rw [HPP.out,if_pos (by omega)]
     first
      | (rw [if_neg (by omega)];rfl)
      | (rw [if_pos (by omega)];rfl)
   ·have W4:=hid (fun W=>within_no ps (-96) 96 W h3)
    have HD:=hid (HPP.out.trans (if_neg (by omega)))
    clear HP hdv hrk hrv hti hsp hsp0 hdd h3
    go_enter Tryz.func89,Tryz.ntmps89
    go_wp2_with fail
    go_quiet ((go_at_call 123;exact Calls.quiet_of_same (W1 _)))
    go_wp2_with (first | (go_at_call 123;with_reducible refine (W2.out _).mono ?_;rintro e w' ⟨rfl,rfl⟩) | (go_at_call 123;with_reducible refine (W3.out _).mono ?_;rintro e w' ⟨rfl,rfl⟩) | (go_at_call 123;with_reducible refine (W4.out _).mono ?_;rintro e w' ⟨rfl,rfl⟩))
    go_ret
    exact ⟨by rw [HD.out];rfl,below_drewN hb0 _⟩
  ·have W3:=hid (fun W=>within_no ph pl d.hi W h2)
   have HD:=hid (HPP.out.trans (if_neg (by omega)))
   clear HP hdv hrk hrv hti hsp hsp0 hdd h2
   go_enter Tryz.func89,Tryz.ntmps89
   go_wp2_with fail
   go_quiet ((go_at_call 123;exact Calls.quiet_of_same (W1 _)))
   go_wp2_with (first | (go_at_call 123;with_reducible refine (W2.out _).mono ?_;rintro e w' ⟨rfl,rfl⟩) | (go_at_call 123;with_reducible refine (W3.out _).mono ?_;rintro e w' ⟨rfl,rfl⟩))
   go_ret
   exact ⟨by rw [HD.out];rfl,below_drewN hb0 _⟩
 ·have W2:=hid (fun W=>within_no pl d.lo d.hi W h1)
  have HD:=hid (HPP.out.trans (if_neg (by omega)))
  clear HP hdv hrk hrv hti hsp hsp0 hdd h1
  go_enter Tryz.func89,Tryz.ntmps89
  go_wp2_with fail
  go_quiet ((go_at_call 123;exact Calls.quiet_of_same (W1 _)))
  go_wp2_with (first | (go_at_call 123;with_reducible refine (W2.out _).mono ?_;rintro e w' ⟨rfl,rfl⟩))
  go_ret
  exact ⟨by rw [HD.out];rfl,below_drewN hb0 _⟩
theorem part_any (S:Sp) (x:St) (d:Dv) (p:Pt) (Bc Bm n:Nat) (v1 v2 v3 v4:Value) (f:Nat→Value) (ks:List (List UInt8 × List UInt8)) (w:World) (hc:Chk w Bc Bm n v1 v2 v3 v4 ks) (hsp:SpRd w v1 v2 v3 v4 f S) (hs:S.rs.length≤1000)
  (hd:x.div.toNat<S.ds.length) (hdd:S.ds[x.div.toNat]=d) (hdv:dvE d=0) (hrv:∀ r∈S.rs,rkE r=0) :
  Calls Tryz.prog 89 #[.pointer (some ⟨Bc,0,none⟩),.agg #[.string d.name,.int .i64 d.lo,.int .i64 d.hi],.agg #[.int .i64 p.rank,.int .i64 p.shift,.int .i64 p.lo,.int .i64 p.hi]] w fun e w'=>e = .returned (.int .i64 (ptE S x p))∧Below w.heap.size w w':=by
 by_cases h:0≤p.rank∧p.rank<S.rs.length
 ·exact part_ways S x d p Bc Bm n v1 v2 v3 v4 f ks w hc hsp hs hd hdd hdv hrv h.1 h.2
 ·obtain ⟨_,⟨a2,c2,rfl⟩,_,_⟩:=hsp.forms
  exact part_norank S x d p Bc Bm n a2 c2 v1 v3 v4 ks w hc hs h
theorem coupler_any (c:Cp) (S:Sp) (Bc Bm n:Nat) (a1:Option Addr) (c1:Nat) (v2 v3 v4:Value) (ks:List (List UInt8 × List UInt8)) (w:World) (hc:Chk w Bc Bm n (.slice a1 S.ds.length c1) v2 v3 v4 ks) (hn:n≤100000) (hz:c.name.size≤9223372036854775807) (hs:S.ds.length≤1000) :
  Calls Tryz.prog 92 #[.pointer (some ⟨Bc,0,none⟩),.agg #[.string c.name,.int .i64 c.frm,.int .i64 c.to,.int .i64 c.shift,.int .i64 c.only,.bool c.thr]] w (CkEnds Bc Bm n (.slice a1 S.ds.length c1) v2 v3 v4 cpK (L c.name) ks (seenE cpK c.name ks (cpE S c)) w):=by
 have hb0:Below w.heap.size w (w.alloc (.cells #[.string c.name,.int .i64 c.frm,.int .i64 c.to,.int .i64 c.shift,.int .i64 c.only,.bool c.thr] 145)):=(Below.refl _ _).alloc (Nat.le_refl _) _
 have hc0:=hc.below hb0
 have k0:Blk (w.alloc (.cells #[.string c.name,.int .i64 c.frm,.int .i64 c.to,.int .i64 c.shift,.int .i64 c.only,.bool c.thr] 145)) w.heap.size 145 #[.string c.name,.int .i64 c.frm,.int .i64 c.to,.int .i64 c.shift,.int .i64 c.only,.bool c.thr]:=Blk.new _ _ _
 have hg0:w.grownBy (w.alloc (.cells #[.string c.name,.int .i64 c.frm,.int .i64 c.to,.int .i64 c.shift,.int .i64 c.only,.bool c.thr] 145)) (some Bm):=only_of Bm hb0
 have hkb:(⟨#[99,111,117,112,108,101,114]⟩:ByteArray).size≤1000:=by decide
 have hmlt:=hc.seen.lt
 cases hnm:nameB (L c.name) with
 | false =>
  have HE:=hid (seenE_form (k:=cpK) (ks:=ks) (n:=cpE S c) hnm)
  have CN:=hid (fun W=>named_form ⟨#[99,111,117,112,108,101,114]⟩ c.name (.pointer (some ⟨Bc,0,none⟩)) W hz hnm)
  clear hnm
  go_enter Tryz.func92,Tryz.ntmps92
  go_wp2_with (go_at_call 122;with_reducible refine (CN.out _).mono ?_;rintro e w' ⟨rfl,rfl⟩)
  go_ret
  exact ckEnds_bad HE.out (by decide) hg0
 | true =>
  by_cases hm:(cpK,L c.name)∈ks
  ·have HE:=hid (seenE_twice (n:=cpE S c) hnm hm)
   have CN:=hid (named_twice ⟨#[99,111,117,112,108,101,114]⟩ c.name Bc Bm n (.slice a1 S.ds.length c1) v2 v3 v4 ks _ hc0 hkb hz hnm hm)
   clear hnm hm
   go_enter Tryz.func92,Tryz.ntmps92
   go_wp2_with (go_at_call 122;with_reducible refine (CN.out).mono ?_;rintro e w' ⟨rfl,rfl⟩)
   go_ret
   exact ckEnds_bad HE.out (by decide) hg0
  ·have HE:=hid (seenE_next (n:=cpE S c) hnm hm)
   have CN:=hid (named_new ⟨#[99,111,117,112,108,101,114]⟩ c.name Bc Bm n (.slice a1 S.ds.length c1) v2 v3 v4 ks _ hc0 hn hkb hz hnm hm)
   clear hnm hm
   have hcast:((S.ds.length:Nat):Int)≤1000:=by omega
   by_cases h1:0≤c.frm∧c.frm≤(S.ds.length:Int)-1
   ·have W1:=hid (fun W=>within_yes c.frm 0 ((S.ds.length:Int)-1) W h1.1 h1.2)
    by_cases h2:0≤c.to∧c.to≤(S.ds.length:Int)-1
    ·have W2:=hid (fun W=>within_yes c.to 0 ((S.ds.length:Int)-1) W h2.1 h2.2)
     have HP:=hid (show cpE S c=if (c.shift = -12∨c.shift=12∨c.shift=0∧c.frm≠c.to)∧0≤c.only∧c.only≤2∧¬ (c.thr=true∧c.only≠0) then 0 else 2 by unfold cpE;rw [if_pos (by omega)])
     clear h1 h2
     by_cases s1:c.shift = -12
     ·have HS:=hid s1
      have b1:(c.shift == -12)=true:=beq_iff_eq.2 s1
      clear s1
      by_cases h3:0≤c.only∧c.only≤2
      ·have W3:=hid (fun W=>within_yes c.only 0 2 W h3.1 h3.2)
       have hthr:c.thr=false∨c.thr=true:=by cases c.thr <;> simp
       rcases hthr with ht | ht
       ·skip
        have HD:=hid (show cpE S c=0 by rw [HP.out,ht,if_pos ⟨by have:=HS.out;omega,h3.1,h3.2,by simp⟩])
        have HT:=hid ht
        clear h3 ht
        go_enter Tryz.func92,Tryz.ntmps92
        go_wp2_with (go_at_call 122;with_reducible refine (CN.out).mono ?_;rintro e w1 ⟨rfl,hc1,hg1⟩;have hgw:=only_trans hg0 hg1;have k1:=k0.kept hg1 (fun e=>by have:=Option.some.inj e;omega);have x0:=k1.cell 0;have x1:=k1.cell 1;have x2:=k1.cell 2;have x3:=k1.cell 3;have x4:=k1.cell 4;have x5:w1.cell? ⟨w.heap.size,5,none⟩=some (.bool false):=(k1.cell 5).trans (by simp [HT.out]);obtain ⟨z0,_,_,_,_⟩:=hc1.cells)
        go_wp2_with (first | (go_at_call 123;with_reducible refine (W1.out _).mono ?_;rintro e w' ⟨rfl,rfl⟩) | (go_at_call 123;with_reducible refine (W2.out _).mono ?_;rintro e w' ⟨rfl,rfl⟩) | (go_at_call 123;with_reducible refine (W3.out _).mono ?_;rintro e w' ⟨rfl,rfl⟩))
        go_ret
        exact ckEnds_good (HE.out.trans HD.out) hgw hc1
       ·skip
        by_cases h4:c.only=0
        ·have HD:=hid (show cpE S c=0 by rw [HP.out,ht,if_pos ⟨by have:=HS.out;omega,h3.1,h3.2,by simp [h4]⟩])
         have HT:=hid ht
         have b4:(c.only==0)=true:=beq_iff_eq.2 h4
         have b5:(c.only != 0)=false:=by simp [h4]
         clear h3 h4 ht
         go_enter Tryz.func92,Tryz.ntmps92
         go_wp2_with (go_at_call 122;with_reducible refine (CN.out).mono ?_;rintro e w1 ⟨rfl,hc1,hg1⟩;have hgw:=only_trans hg0 hg1;have k1:=k0.kept hg1 (fun e=>by have:=Option.some.inj e;omega);have x0:=k1.cell 0;have x1:=k1.cell 1;have x2:=k1.cell 2;have x3:=k1.cell 3;have x4:=k1.cell 4;have x5:w1.cell? ⟨w.heap.size,5,none⟩=some (.bool true):=(k1.cell 5).trans (by simp [HT.out]);obtain ⟨z0,_,_,_,_⟩:=hc1.cells)
         go_wp2_with (first | (go_at_call 123;with_reducible refine (W1.out _).mono ?_;rintro e w' ⟨rfl,rfl⟩) | (go_at_call 123;with_reducible refine (W2.out _).mono ?_;rintro e w' ⟨rfl,rfl⟩) | (go_at_call 123;with_reducible refine (W3.out _).mono ?_;rintro e w' ⟨rfl,rfl⟩))
         go_ret
         exact ckEnds_good (HE.out.trans HD.out) hgw hc1
        ·have HD:=hid (show cpE S c=2 by rw [HP.out,ht,if_neg (by simp [h4])])
         have HT:=hid ht
         have b4:(c.only==0)=false:=beq_eq_false_iff_ne.2 h4
         have b5:(c.only != 0)=true:=by simp [h4]
         clear h3 h4 ht
         go_enter Tryz.func92,Tryz.ntmps92
         go_wp2_with (go_at_call 122;with_reducible refine (CN.out).mono ?_;rintro e w1 ⟨rfl,hc1,hg1⟩;have hgw:=only_trans hg0 hg1;have k1:=k0.kept hg1 (fun e=>by have:=Option.some.inj e;omega);have x0:=k1.cell 0;have x1:=k1.cell 1;have x2:=k1.cell 2;have x3:=k1.cell 3;have x4:=k1.cell 4;have x5:w1.cell? ⟨w.heap.size,5,none⟩=some (.bool true):=(k1.cell 5).trans (by simp [HT.out]);obtain ⟨z0,_,_,_,_⟩:=hc1.cells)
         go_wp2_with (first | (go_at_call 123;with_reducible refine (W1.out _).mono ?_;rintro e w' ⟨rfl,rfl⟩) | (go_at_call 123;with_reducible refine (W2.out _).mono ?_;rintro e w' ⟨rfl,rfl⟩) | (go_at_call 123;with_reducible refine (W3.out _).mono ?_;rintro e w' ⟨rfl,rfl⟩))
         go_ret
         exact ckEnds_bad (HE.out.trans HD.out) (by decide) hgw
      ·have W3:=hid (fun W=>within_no c.only 0 2 W h3)
       have HD:=hid (show cpE S c=2 by rw [HP.out,if_neg (fun h=>h3 ⟨h.2.1,h.2.2.1⟩)])
       clear h3
       go_enter Tryz.func92,Tryz.ntmps92
       go_wp2_with (go_at_call 122;with_reducible refine (CN.out).mono ?_;rintro e w1 ⟨rfl,hc1,hg1⟩;have hgw:=only_trans hg0 hg1;have k1:=k0.kept hg1 (fun e=>by have:=Option.some.inj e;omega);have x0:=k1.cell 0;have x1:=k1.cell 1;have x2:=k1.cell 2;have x3:=k1.cell 3;have x4:=k1.cell 4;have x5:=k1.cell 5;obtain ⟨z0,_,_,_,_⟩:=hc1.cells)
       go_wp2_with (first | (go_at_call 123;with_reducible refine (W1.out _).mono ?_;rintro e w' ⟨rfl,rfl⟩) | (go_at_call 123;with_reducible refine (W2.out _).mono ?_;rintro e w' ⟨rfl,rfl⟩) | (go_at_call 123;with_reducible refine (W3.out _).mono ?_;rintro e w' ⟨rfl,rfl⟩))
       go_ret
       exact ckEnds_bad (HE.out.trans HD.out) (by decide) hgw
     ·have b1:(c.shift == -12)=false:=beq_eq_false_iff_ne.2 s1
      by_cases s2:c.shift=12
      ·have HS:=hid s2
       have b2:(c.shift==12)=true:=beq_iff_eq.2 s2
       clear s1 s2
       by_cases h3:0≤c.only∧c.only≤2
       ·have W3:=hid (fun W=>within_yes c.only 0 2 W h3.1 h3.2)
        have hthr:c.thr=false∨c.thr=true:=by cases c.thr <;> simp
        rcases hthr with ht | ht
        ·skip
         have HD:=hid (show cpE S c=0 by rw [HP.out,ht,if_pos ⟨by have:=HS.out;omega,h3.1,h3.2,by simp⟩])
         have HT:=hid ht
         clear h3 ht
         go_enter Tryz.func92,Tryz.ntmps92
         go_wp2_with (go_at_call 122;with_reducible refine (CN.out).mono ?_;rintro e w1 ⟨rfl,hc1,hg1⟩;have hgw:=only_trans hg0 hg1;have k1:=k0.kept hg1 (fun e=>by have:=Option.some.inj e;omega);have x0:=k1.cell 0;have x1:=k1.cell 1;have x2:=k1.cell 2;have x3:=k1.cell 3;have x4:=k1.cell 4;have x5:w1.cell? ⟨w.heap.size,5,none⟩=some (.bool false):=(k1.cell 5).trans (by simp [HT.out]);obtain ⟨z0,_,_,_,_⟩:=hc1.cells)
         go_wp2_with (first | (go_at_call 123;with_reducible refine (W1.out _).mono ?_;rintro e w' ⟨rfl,rfl⟩) | (go_at_call 123;with_reducible refine (W2.out _).mono ?_;rintro e w' ⟨rfl,rfl⟩) | (go_at_call 123;with_reducible refine (W3.out _).mono ?_;rintro e w' ⟨rfl,rfl⟩))
         go_ret
         exact ckEnds_good (HE.out.trans HD.out) hgw hc1
        ·skip
         by_cases h4:c.only=0
         ·have HD:=hid (show cpE S c=0 by rw [HP.out,ht,if_pos ⟨by have:=HS.out;omega,h3.1,h3.2,by simp [h4]⟩])
          have HT:=hid ht
          have b4:(c.only==0)=true:=beq_iff_eq.2 h4
          have b5:(c.only != 0)=false:=by simp [h4]
          clear h3 h4 ht
          go_enter Tryz.func92,Tryz.ntmps92
          go_wp2_with (go_at_call 122;with_reducible refine (CN.out).mono ?_;rintro e w1 ⟨rfl,hc1,hg1⟩;have hgw:=only_trans hg0 hg1;have k1:=k0.kept hg1 (fun e=>by have:=Option.some.inj e;omega);have x0:=k1.cell 0;have x1:=k1.cell 1;have x2:=k1.cell 2;have x3:=k1.cell 3;have x4:=k1.cell 4;have x5:w1.cell? ⟨w.heap.size,5,none⟩=some (.bool true):=(k1.cell 5).trans (by simp [HT.out]);obtain ⟨z0,_,_,_,_⟩:=hc1.cells)
          go_wp2_with (first | (go_at_call 123;with_reducible refine (W1.out _).mono ?_;rintro e w' ⟨rfl,rfl⟩) | (go_at_call 123;with_reducible refine (W2.out _).mono ?_;rintro e w' ⟨rfl,rfl⟩) | (go_at_call 123;with_reducible refine (W3.out _).mono ?_;rintro e w' ⟨rfl,rfl⟩))
          go_ret
          exact ckEnds_good (HE.out.trans HD.out) hgw hc1
         ·have HD:=hid (show cpE S c=2 by rw [HP.out,ht,if_neg (by simp [h4])])
          have HT:=hid ht
          have b4:(c.only==0)=false:=beq_eq_false_iff_ne.2 h4
          have b5:(c.only != 0)=true:=by simp [h4]
          clear h3 h4 ht
          go_enter Tryz.func92,Tryz.ntmps92
          go_wp2_with (go_at_call 122;with_reducible refine (CN.out).mono ?_;rintro e w1 ⟨rfl,hc1,hg1⟩;have hgw:=only_trans hg0 hg1;have k1:=k0.kept hg1 (fun e=>by have:=Option.some.inj e;omega);have x0:=k1.cell 0;have x1:=k1.cell 1;have x2:=k1.cell 2;have x3:=k1.cell 3;have x4:=k1.cell 4;have x5:w1.cell? ⟨w.heap.size,5,none⟩=some (.bool true):=(k1.cell 5).trans (by simp [HT.out]);obtain ⟨z0,_,_,_,_⟩:=hc1.cells)
          go_wp2_with (first | (go_at_call 123;with_reducible refine (W1.out _).mono ?_;rintro e w' ⟨rfl,rfl⟩) | (go_at_call 123;with_reducible refine (W2.out _).mono ?_;rintro e w' ⟨rfl,rfl⟩) | (go_at_call 123;with_reducible refine (W3.out _).mono ?_;rintro e w' ⟨rfl,rfl⟩))
          go_ret
          exact ckEnds_bad (HE.out.trans HD.out) (by decide) hgw
       ·have W3:=hid (fun W=>within_no c.only 0 2 W h3)
        have HD:=hid (show cpE S c=2 by rw [HP.out,if_neg (fun h=>h3 ⟨h.2.1,h.2.2.1⟩)])
        clear h3
        go_enter Tryz.func92,Tryz.ntmps92
        go_wp2_with (go_at_call 122;with_reducible refine (CN.out).mono ?_;rintro e w1 ⟨rfl,hc1,hg1⟩;have hgw:=only_trans hg0 hg1;have k1:=k0.kept hg1 (fun e=>by have:=Option.some.inj e;omega);have x0:=k1.cell 0;have x1:=k1.cell 1;have x2:=k1.cell 2;have x3:=k1.cell 3;have x4:=k1.cell 4;have x5:=k1.cell 5;obtain ⟨z0,_,_,_,_⟩:=hc1.cells)
        go_wp2_with (first | (go_at_call 123;with_reducible refine (W1.out _).mono ?_;rintro e w' ⟨rfl,rfl⟩) | (go_at_call 123;with_reducible refine (W2.out _).mono ?_;rintro e w' ⟨rfl,rfl⟩) | (go_at_call 123;with_reducible refine (W3.out _).mono ?_;rintro e w' ⟨rfl,rfl⟩))
        go_ret
        exact ckEnds_bad (HE.out.trans HD.out) (by decide) hgw
      ·have b2:(c.shift==12)=false:=beq_eq_false_iff_ne.2 s2
       by_cases s3:c.shift=0
       ·have b3:(c.shift==0)=true:=beq_iff_eq.2 s3
        by_cases s4:c.frm=c.to
        ·have HS:=hid (show c.shift=0∧c.frm=c.to from ⟨s3,s4⟩)
         have b4:(c.frm==c.to)=true:=beq_iff_eq.2 s4
         have b5:(c.frm != c.to)=false:=by simp [s4]
         clear s1 s2 s3 s4
         have HD:=hid (show cpE S c=2 by rw [HP.out,if_neg (by have:=HS.out;omega)])
         go_enter Tryz.func92,Tryz.ntmps92
         go_wp2_with (go_at_call 122;with_reducible refine (CN.out).mono ?_;rintro e w1 ⟨rfl,hc1,hg1⟩;have hgw:=only_trans hg0 hg1;have k1:=k0.kept hg1 (fun e=>by have:=Option.some.inj e;omega);have x0:=k1.cell 0;have x1:=k1.cell 1;have x2:=k1.cell 2;have x3:=k1.cell 3;have x4:=k1.cell 4;have x5:=k1.cell 5;obtain ⟨z0,_,_,_,_⟩:=hc1.cells)
         go_wp2_with (first | (go_at_call 123;with_reducible refine (W1.out _).mono ?_;rintro e w' ⟨rfl,rfl⟩) | (go_at_call 123;with_reducible refine (W2.out _).mono ?_;rintro e w' ⟨rfl,rfl⟩))
         go_ret
         exact ckEnds_bad (HE.out.trans HD.out) (by decide) hgw
        ·have HS:=hid (show c.shift=0∧c.frm≠c.to from ⟨s3,s4⟩)
         have b4:(c.frm==c.to)=false:=beq_eq_false_iff_ne.2 s4
         have b5:(c.frm != c.to)=true:=by simp [s4]
         clear s1 s2 s3 s4
         by_cases h3:0≤c.only∧c.only≤2
         ·have W3:=hid (fun W=>within_yes c.only 0 2 W h3.1 h3.2)
          have hthr:c.thr=false∨c.thr=true:=by cases c.thr <;> simp
          rcases hthr with ht | ht
          ·skip
           have HD:=hid (show cpE S c=0 by rw [HP.out,ht,if_pos ⟨by have:=HS.out;omega,h3.1,h3.2,by simp⟩])
           have HT:=hid ht
           clear h3 ht
           go_enter Tryz.func92,Tryz.ntmps92
           go_wp2_with (go_at_call 122;with_reducible refine (CN.out).mono ?_;rintro e w1 ⟨rfl,hc1,hg1⟩;have hgw:=only_trans hg0 hg1;have k1:=k0.kept hg1 (fun e=>by have:=Option.some.inj e;omega);have x0:=k1.cell 0;have x1:=k1.cell 1;have x2:=k1.cell 2;have x3:=k1.cell 3;have x4:=k1.cell 4;have x5:w1.cell? ⟨w.heap.size,5,none⟩=some (.bool false):=(k1.cell 5).trans (by simp [HT.out]);obtain ⟨z0,_,_,_,_⟩:=hc1.cells)
           go_wp2_with (first | (go_at_call 123;with_reducible refine (W1.out _).mono ?_;rintro e w' ⟨rfl,rfl⟩) | (go_at_call 123;with_reducible refine (W2.out _).mono ?_;rintro e w' ⟨rfl,rfl⟩) | (go_at_call 123;with_reducible refine (W3.out _).mono ?_;rintro e w' ⟨rfl,rfl⟩))
           go_ret
           exact ckEnds_good (HE.out.trans HD.out) hgw hc1
          ·skip
           by_cases h4:c.only=0
           ·have HD:=hid (show cpE S c=0 by rw [HP.out,ht,if_pos ⟨by have:=HS.out;omega,h3.1,h3.2,by simp [h4]⟩])
            have HT:=hid ht
            have d4:(c.only==0)=true:=beq_iff_eq.2 h4
            have d5:(c.only != 0)=false:=by simp [h4]
            clear h3 h4 ht
            go_enter Tryz.func92,Tryz.ntmps92
            go_wp2_with (go_at_call 122;with_reducible refine (CN.out).mono ?_;rintro e w1 ⟨rfl,hc1,hg1⟩;have hgw:=only_trans hg0 hg1;have k1:=k0.kept hg1 (fun e=>by have:=Option.some.inj e;omega);have x0:=k1.cell 0;have x1:=k1.cell 1;have x2:=k1.cell 2;have x3:=k1.cell 3;have x4:=k1.cell 4;have x5:w1.cell? ⟨w.heap.size,5,none⟩=some (.bool true):=(k1.cell 5).trans (by simp [HT.out]);obtain ⟨z0,_,_,_,_⟩:=hc1.cells)
            go_wp2_with (first | (go_at_call 123;with_reducible refine (W1.out _).mono ?_;rintro e w' ⟨rfl,rfl⟩) | (go_at_call 123;with_reducible refine (W2.out _).mono ?_;rintro e w' ⟨rfl,rfl⟩) | (go_at_call 123;with_reducible refine (W3.out _).mono ?_;rintro e w' ⟨rfl,rfl⟩))
            go_ret
            exact ckEnds_good (HE.out.trans HD.out) hgw hc1
           ·have HD:=hid (show cpE S c=2 by rw [HP.out,ht,if_neg (by simp [h4])])
            have HT:=hid ht
            have d4:(c.only==0)=false:=beq_eq_false_iff_ne.2 h4
            have d5:(c.only != 0)=true:=by simp [h4]
            clear h3 h4 ht
            go_enter Tryz.func92,Tryz.ntmps92
            go_wp2_with (go_at_call 122;with_reducible refine (CN.out).mono ?_;rintro e w1 ⟨rfl,hc1,hg1⟩;have hgw:=only_trans hg0 hg1;have k1:=k0.kept hg1 (fun e=>by have:=Option.some.inj e;omega);have x0:=k1.cell 0;have x1:=k1.cell 1;have x2:=k1.cell 2;have x3:=k1.cell 3;have x4:=k1.cell 4;have x5:w1.cell? ⟨w.heap.size,5,none⟩=some (.bool true):=(k1.cell 5).trans (by simp [HT.out]);obtain ⟨z0,_,_,_,_⟩:=hc1.cells)
            go_wp2_with (first | (go_at_call 123;with_reducible refine (W1.out _).mono ?_;rintro e w' ⟨rfl,rfl⟩) | (go_at_call 123;with_reducible refine (W2.out _).mono ?_;rintro e w' ⟨rfl,rfl⟩) | (go_at_call 123;with_reducible refine (W3.out _).mono ?_;rintro e w' ⟨rfl,rfl⟩))
            go_ret
            exact ckEnds_bad (HE.out.trans HD.out) (by decide) hgw
         ·have W3:=hid (fun W=>within_no c.only 0 2 W h3)
          have HD:=hid (show cpE S c=2 by rw [HP.out,if_neg (fun h=>h3 ⟨h.2.1,h.2.2.1⟩)])
          clear h3
          go_enter Tryz.func92,Tryz.ntmps92
          go_wp2_with (go_at_call 122;with_reducible refine (CN.out).mono ?_;rintro e w1 ⟨rfl,hc1,hg1⟩;have hgw:=only_trans hg0 hg1;have k1:=k0.kept hg1 (fun e=>by have:=Option.some.inj e;omega);have x0:=k1.cell 0;have x1:=k1.cell 1;have x2:=k1.cell 2;have x3:=k1.cell 3;have x4:=k1.cell 4;have x5:=k1.cell 5;obtain ⟨z0,_,_,_,_⟩:=hc1.cells)
          go_wp2_with (first | (go_at_call 123;with_reducible refine (W1.out _).mono ?_;rintro e w' ⟨rfl,rfl⟩) | (go_at_call 123;with_reducible refine (W2.out _).mono ?_;rintro e w' ⟨rfl,rfl⟩) | (go_at_call 123;with_reducible refine (W3.out _).mono ?_;rintro e w' ⟨rfl,rfl⟩))
          go_ret
          exact ckEnds_bad (HE.out.trans HD.out) (by decide) hgw
       ·have b3:(c.shift==0)=false:=beq_eq_false_iff_ne.2 s3
        have HS:=hid (show c.shift ≠ -12∧c.shift≠12∧c.shift≠0 from ⟨s1,s2,s3⟩)
        clear s1 s2 s3
        have HD:=hid (show cpE S c=2 by rw [HP.out,if_neg (by have:=HS.out;omega)])
        go_enter Tryz.func92,Tryz.ntmps92
        go_wp2_with (go_at_call 122;with_reducible refine (CN.out).mono ?_;rintro e w1 ⟨rfl,hc1,hg1⟩;have hgw:=only_trans hg0 hg1;have k1:=k0.kept hg1 (fun e=>by have:=Option.some.inj e;omega);have x0:=k1.cell 0;have x1:=k1.cell 1;have x2:=k1.cell 2;have x3:=k1.cell 3;have x4:=k1.cell 4;have x5:=k1.cell 5;obtain ⟨z0,_,_,_,_⟩:=hc1.cells)
        go_wp2_with (first | (go_at_call 123;with_reducible refine (W1.out _).mono ?_;rintro e w' ⟨rfl,rfl⟩) | (go_at_call 123;with_reducible refine (W2.out _).mono ?_;rintro e w' ⟨rfl,rfl⟩))
        go_ret
        exact ckEnds_bad (HE.out.trans HD.out) (by decide) hgw
    ·have W2:=hid (fun W=>within_no c.to 0 ((S.ds.length:Int)-1) W h2)
     have HD:=hid (show cpE S c=4 by unfold cpE;rw [if_neg (by omega)])
     clear h1 h2
     go_enter Tryz.func92,Tryz.ntmps92
     go_wp2_with (go_at_call 122;with_reducible refine (CN.out).mono ?_;rintro e w1 ⟨rfl,hc1,hg1⟩;have hgw:=only_trans hg0 hg1;have k1:=k0.kept hg1 (fun e=>by have:=Option.some.inj e;omega);have x0:=k1.cell 0;have x1:=k1.cell 1;have x2:=k1.cell 2;have x3:=k1.cell 3;have x4:=k1.cell 4;have x5:=k1.cell 5;obtain ⟨z0,_,_,_,_⟩:=hc1.cells)
     go_wp2_with (first | (go_at_call 123;with_reducible refine (W1.out _).mono ?_;rintro e w' ⟨rfl,rfl⟩) | (go_at_call 123;with_reducible refine (W2.out _).mono ?_;rintro e w' ⟨rfl,rfl⟩))
     go_ret
     exact ckEnds_bad (HE.out.trans HD.out) (by decide) hgw
   ·have W1:=hid (fun W=>within_no c.frm 0 ((S.ds.length:Int)-1) W h1)
    have HD:=hid (show cpE S c=4 by unfold cpE;rw [if_neg (by omega)])
    clear h1
    go_enter Tryz.func92,Tryz.ntmps92
    go_wp2_with (go_at_call 122;with_reducible refine (CN.out).mono ?_;rintro e w1 ⟨rfl,hc1,hg1⟩;have hgw:=only_trans hg0 hg1;have k1:=k0.kept hg1 (fun e=>by have:=Option.some.inj e;omega);have x0:=k1.cell 0;have x1:=k1.cell 1;have x2:=k1.cell 2;have x3:=k1.cell 3;have x4:=k1.cell 4;have x5:=k1.cell 5;obtain ⟨z0,_,_,_,_⟩:=hc1.cells)
    go_wp2_with (go_at_call 123;with_reducible refine (W1.out _).mono ?_;rintro e w' ⟨rfl,rfl⟩)
    go_ret
    exact ckEnds_bad (HE.out.trans HD.out) (by decide) hgw
def fstV (E:Nat→Int) (n:Nat):Value:=match fst0 E n with
 | some i => .tuple #[.int .i64 i,.int .i64 (E i)]
 | none => .tuple #[.int .i64 0,.int .i64 0]
theorem fstV_some {E:Nat→Int} {n i:Nat} (h1:i<n) (h2:E i≠0) (h3:∀ j,j<i→E j=0):fstV E n = .tuple #[.int .i64 i,.int .i64 (E i)]:=by unfold fstV;rw [fst0_some h1 h2 h3]
theorem fstV_none {E:Nat→Int} {n:Nat} (h:∀ j,j<n→E j=0):fstV E n = .tuple #[.int .i64 0,.int .i64 0]:=by unfold fstV;rw [fst0_none.2 h]
def FstEnds (E:Nat→Int) (n:Nat) (Inv:Nat→World→Prop) (Wk:World→Prop) (e:Ending) (w':World):Prop:=e = .returned (fstV E n)∧Wk w'∧(fst0 E n=none→Inv n w')
theorem fstEnds_some {E:Nat→Int} {n i:Nat} {Inv:Nat→World→Prop} {Wk:World→Prop} {w':World} {v:Value} (h1:i<n) (h2:E i≠0) (h3:∀ j,j<i→E j=0) (hv:v = .tuple #[.int .i64 i,.int .i64 (E i)]) (hw:Wk w'):FstEnds E n Inv Wk (.returned v) w' :=
 ⟨by rw [fstV_some h1 h2 h3,hv],hw,fun h=>absurd (h.symm.trans (fst0_some h1 h2 h3)) (by simp)⟩
theorem fstEnds_none {E:Nat→Int} {n:Nat} {Inv:Nat→World→Prop} {Wk:World→Prop} {w':World} {v:Value} (h:∀ j,j<n→E j=0) (hv:v = .tuple #[.int .i64 0,.int .i64 0]) (hw:Wk w') (hi:Inv n w'):FstEnds E n Inv Wk (.returned v) w' :=
 ⟨by rw [fstV_none h,hv],hw,fun _=>hi⟩
theorem firstD_any (n:Nat) (hn:n≤1000) (v:Value) (E:Nat→Int) (Bc:Nat) (Inv:Nat→World→Prop) (Wk:World→Prop) (w:World)
  (hIB:∀ k W W',Inv k W→Below W.heap.size W W'→Inv k W') (hWB:∀ W W',Wk W→Below W.heap.size W W'→Wk W') (hIW:∀ k W,Inv k W→Wk W)
  (hv:∃ a c,v = .slice a n c)
  (hrd:∀ k,k<n→∃ (x:Dv),∀ W,Inv k W→(∃ b o c,v = .slice (some ⟨b,o,none⟩) n c∧b<W.heap.size∧W.cell? ⟨b,o+k * 3,none⟩=some (.string x.name)∧W.cell? ⟨b,o+k * 3+1,none⟩=some (.int .i64 x.lo)∧W.cell? ⟨b,o+k * 3+2,none⟩=some (.int .i64 x.hi)) ∧
   Calls Tryz.prog 84 #[.pointer (some ⟨Bc,0,none⟩),.agg #[.string x.name,.int .i64 x.lo,.int .i64 x.hi]] W fun e w'=>e = .returned (.int .i64 (E k))∧Wk w'∧(E k=0→Inv (k+1) w'))
  (h0:Inv 0 w) :
  Calls Tryz.prog 83 #[v,.func (.func 84) #[.pointer (some ⟨Bc,0,none⟩)] #[]] w (FstEnds E n Inv Wk):=by
 have eg:∀ args w,(callFunc 84 args).run Tryz.prog w = .ok (.enter 84 args) w:=enters_of Tryz.func84 (by kernel_rfl) rfl
 have HR:=hid hrd
 have HIB:=hid hIB
 have HIW:=hid hIW
 obtain ⟨a,c,rfl⟩:=hv
 clear hrd hIB hIW
 have HWB:=hid hWB
 clear hWB
 go_enter Tryz.func83,Tryz.ntmps83
 go_wp2
 go_loopw [11] (fun i wr=>∃ k:Nat,k≤n∧i = .int .i64 k∧Hid (∀ j,j<k→E j=0)∧Hid (Inv k wr)) (fun i _=>n-(intOf i).toNat)
 case atStart=>exact ⟨0,Nat.zero_le _,rfl,hid (fun j h=>absurd h (Nat.not_lt_zero j)),hid h0⟩
 case round =>
  obtain ⟨k,hk,rfl,hE,hI⟩:=hrel
  by_cases hlt:k<n
  ·obtain ⟨x,hx⟩:=HR.out k hlt
   obtain ⟨⟨b,o,c',hvv,hbl,r0,r1,r2⟩,_⟩:=hx wr hI.out
   simp only [Value.slice.injEq] at hvv
   obtain ⟨rfl,_,rfl⟩:=hvv
   have HX:=hid hx
   clear hx
   have hi1:(0:Int)≤(k:Int):=Int.natCast_nonneg _
   have hi2:(k:Int)<(n:Int):=by omega
   have hb0:Below wr.heap.size wr (wr.alloc (.cells #[.string x.name,.int .i64 x.lo,.int .i64 x.hi] 109)):=(Below.refl _ _).alloc (Nat.le_refl _) _
   have HC:=hid (HX.out _ (HIB.out k _ _ hI.out hb0)).2
   obtain ⟨ek,hek⟩:∃ ek,ek=E k:=⟨_,rfl⟩
   rw [← hek] at HC
   have HK:=hid hek
   clear hek
   by_cases hz:ek=0
   ·subst hz
    go_wp2_with (go_at_fn 84;refine (HC.out).mono ?_;rintro e w2 ⟨rfl,hw2,hi2'⟩;have HN:=hid (hi2' rfl);clear hi2')
    go_roundw
    case rel=>exact ⟨k+1,by omega,by go_num,hid (fun j hj=>by rcases Nat.lt_succ_iff_lt_or_eq.1 hj with h | h;exact hE.out j h;rw [h];exact HK.out.symm),HN⟩
    case measure=>simp [intOf];omega
   ·have b1:(ek==0)=false:=beq_eq_false_iff_ne.2 hz
    have HZ:=hid hz
    clear hz
    go_wp2_with (go_at_fn 84;refine (HC.out).mono ?_;rintro e w2 ⟨rfl,hw2,_⟩;have HW:=hid hw2;clear hw2)
    go_ret2
    exact fstEnds_some hlt (by rw [← HK.out];exact HZ.out) hE.out (by rw [← HK.out];rfl) HW.out
  ·have hke:k=n:=by omega
   subst hke
   go_wp2
   go_ret2
   exact fstEnds_none hE.out rfl (HIW.out _ _ hI.out) hI.out
theorem firstR_any (n:Nat) (hn:n≤1000) (v:Value) (E:Nat→Int) (Bc:Nat) (Inv:Nat→World→Prop) (Wk:World→Prop) (w:World)
  (hIB:∀ k W W',Inv k W→Below W.heap.size W W'→Inv k W') (hWB:∀ W W',Wk W→Below W.heap.size W W'→Wk W') (hIW:∀ k W,Inv k W→Wk W)
  (hv:∃ a c,v = .slice a n c)
  (hrd:∀ k,k<n→∃ (x:Rk),∀ W,Inv k W→(∃ b o c,v = .slice (some ⟨b,o,none⟩) n c∧b<W.heap.size∧W.cell? ⟨b,o+k * 6,none⟩=some (.string x.name)∧W.cell? ⟨b,o+k * 6+1,none⟩=some (.int .i64 x.kind)∧W.cell? ⟨b,o+k * 6+2,none⟩=some (.int .i64 x.num)∧W.cell? ⟨b,o+k * 6+3,none⟩=some (.int .i64 x.den)∧W.cell? ⟨b,o+k * 6+4,none⟩=some (.int .i64 x.low)∧W.cell? ⟨b,o+k * 6+5,none⟩=some (.int .i64 x.cnt)) ∧
   Calls Tryz.prog 86 #[.pointer (some ⟨Bc,0,none⟩),.agg #[.string x.name,.int .i64 x.kind,.int .i64 x.num,.int .i64 x.den,.int .i64 x.low,.int .i64 x.cnt]] W fun e w'=>e = .returned (.int .i64 (E k))∧Wk w'∧(E k=0→Inv (k+1) w'))
  (h0:Inv 0 w) :
  Calls Tryz.prog 85 #[v,.func (.func 86) #[.pointer (some ⟨Bc,0,none⟩)] #[]] w (FstEnds E n Inv Wk):=by
 have eg:∀ args w,(callFunc 86 args).run Tryz.prog w = .ok (.enter 86 args) w:=enters_of Tryz.func86 (by kernel_rfl) rfl
 have HR:=hid hrd
 have HIB:=hid hIB
 have HIW:=hid hIW
 obtain ⟨a,c,rfl⟩:=hv
 clear hrd hIB hIW
 have HWB:=hid hWB
 clear hWB
 go_enter Tryz.func85,Tryz.ntmps85
 go_wp2
 go_loopw [11] (fun i wr=>∃ k:Nat,k≤n∧i = .int .i64 k∧Hid (∀ j,j<k→E j=0)∧Hid (Inv k wr)) (fun i _=>n-(intOf i).toNat)
 case atStart=>exact ⟨0,Nat.zero_le _,rfl,hid (fun j h=>absurd h (Nat.not_lt_zero j)),hid h0⟩
 case round =>
  obtain ⟨k,hk,rfl,hE,hI⟩:=hrel
  by_cases hlt:k<n
  ·obtain ⟨x,hx⟩:=HR.out k hlt
   obtain ⟨⟨b,o,c',hvv,hbl,r0,r1,r2,r3,r4,r5⟩,_⟩:=hx wr hI.out
   simp only [Value.slice.injEq] at hvv
   obtain ⟨rfl,_,rfl⟩:=hvv
   have HX:=hid hx
   clear hx
   have hi1:(0:Int)≤(k:Int):=Int.natCast_nonneg _
   have hi2:(k:Int)<(n:Int):=by omega
   have hb0:Below wr.heap.size wr (wr.alloc (.cells #[.string x.name,.int .i64 x.kind,.int .i64 x.num,.int .i64 x.den,.int .i64 x.low,.int .i64 x.cnt] 63)):=(Below.refl _ _).alloc (Nat.le_refl _) _
   have HC:=hid (HX.out _ (HIB.out k _ _ hI.out hb0)).2
   obtain ⟨ek,hek⟩:∃ ek,ek=E k:=⟨_,rfl⟩
   rw [← hek] at HC
   have HK:=hid hek
   clear hek
   by_cases hz:ek=0
   ·subst hz
    go_wp2_with (go_at_fn 86;refine (HC.out).mono ?_;rintro e w2 ⟨rfl,hw2,hi2'⟩;have HN:=hid (hi2' rfl);clear hi2')
    go_roundw
    case rel=>exact ⟨k+1,by omega,by go_num,hid (fun j hj=>by rcases Nat.lt_succ_iff_lt_or_eq.1 hj with h | h;exact hE.out j h;rw [h];exact HK.out.symm),HN⟩
    case measure=>simp [intOf];omega
   ·have b1:(ek==0)=false:=beq_eq_false_iff_ne.2 hz
    have HZ:=hid hz
    clear hz
    go_wp2_with (go_at_fn 86;refine (HC.out).mono ?_;rintro e w2 ⟨rfl,hw2,_⟩;have HW:=hid hw2;clear hw2)
    go_ret2
    exact fstEnds_some hlt (by rw [← HK.out];exact HZ.out) hE.out (by rw [← HK.out];rfl) HW.out
  ·have hke:k=n:=by omega
   subst hke
   go_wp2
   go_ret2
   exact fstEnds_none hE.out rfl (HIW.out _ _ hI.out) hI.out
theorem firstC_any (n:Nat) (hn:n≤1000) (v:Value) (E:Nat→Int) (Bc:Nat) (Inv:Nat→World→Prop) (Wk:World→Prop) (w:World)
  (hIB:∀ k W W',Inv k W→Below W.heap.size W W'→Inv k W') (hWB:∀ W W',Wk W→Below W.heap.size W W'→Wk W') (hIW:∀ k W,Inv k W→Wk W)
  (hv:∃ a c,v = .slice a n c)
  (hrd:∀ k,k<n→∃ (x:Cp),∀ W,Inv k W→(∃ b o c,v = .slice (some ⟨b,o,none⟩) n c∧b<W.heap.size∧W.cell? ⟨b,o+k * 6,none⟩=some (.string x.name)∧W.cell? ⟨b,o+k * 6+1,none⟩=some (.int .i64 x.frm)∧W.cell? ⟨b,o+k * 6+2,none⟩=some (.int .i64 x.to)∧W.cell? ⟨b,o+k * 6+3,none⟩=some (.int .i64 x.shift)∧W.cell? ⟨b,o+k * 6+4,none⟩=some (.int .i64 x.only)∧W.cell? ⟨b,o+k * 6+5,none⟩=some (.bool x.thr)) ∧
   Calls Tryz.prog 92 #[.pointer (some ⟨Bc,0,none⟩),.agg #[.string x.name,.int .i64 x.frm,.int .i64 x.to,.int .i64 x.shift,.int .i64 x.only,.bool x.thr]] W fun e w'=>e = .returned (.int .i64 (E k))∧Wk w'∧(E k=0→Inv (k+1) w'))
  (h0:Inv 0 w) :
  Calls Tryz.prog 91 #[v,.func (.func 92) #[.pointer (some ⟨Bc,0,none⟩)] #[]] w (FstEnds E n Inv Wk):=by
 have eg:∀ args w,(callFunc 92 args).run Tryz.prog w = .ok (.enter 92 args) w:=enters_of Tryz.func92 (by kernel_rfl) rfl
 have HR:=hid hrd
 have HIB:=hid hIB
 have HIW:=hid hIW
 obtain ⟨a,c,rfl⟩:=hv
 clear hrd hIB hIW
 have HWB:=hid hWB
 clear hWB
 go_enter Tryz.func91,Tryz.ntmps91
 go_wp2
 go_loopw [11] (fun i wr=>∃ k:Nat,k≤n∧i = .int .i64 k∧Hid (∀ j,j<k→E j=0)∧Hid (Inv k wr)) (fun i _=>n-(intOf i).toNat)
 case atStart=>exact ⟨0,Nat.zero_le _,rfl,hid (fun j h=>absurd h (Nat.not_lt_zero j)),hid h0⟩
 case round =>
  obtain ⟨k,hk,rfl,hE,hI⟩:=hrel
  by_cases hlt:k<n
  ·obtain ⟨x,hx⟩:=HR.out k hlt
   obtain ⟨⟨b,o,c',hvv,hbl,r0,r1,r2,r3,r4,r5⟩,_⟩:=hx wr hI.out
   simp only [Value.slice.injEq] at hvv
   obtain ⟨rfl,_,rfl⟩:=hvv
   have HX:=hid hx
   clear hx
   have hi1:(0:Int)≤(k:Int):=Int.natCast_nonneg _
   have hi2:(k:Int)<(n:Int):=by omega
   have hb0:Below wr.heap.size wr (wr.alloc (.cells #[.string x.name,.int .i64 x.frm,.int .i64 x.to,.int .i64 x.shift,.int .i64 x.only,.bool x.thr] 145)):=(Below.refl _ _).alloc (Nat.le_refl _) _
   have HC:=hid (HX.out _ (HIB.out k _ _ hI.out hb0)).2
   obtain ⟨ek,hek⟩:∃ ek,ek=E k:=⟨_,rfl⟩
   rw [← hek] at HC
   have HK:=hid hek
   clear hek
   by_cases hz:ek=0
   ·subst hz
    go_wp2_with (go_at_fn 92;refine (HC.out).mono ?_;rintro e w2 ⟨rfl,hw2,hi2'⟩;have HN:=hid (hi2' rfl);clear hi2')
    go_roundw
    case rel=>exact ⟨k+1,by omega,by go_num,hid (fun j hj=>by rcases Nat.lt_succ_iff_lt_or_eq.1 hj with h | h;exact hE.out j h;rw [h];exact HK.out.symm),HN⟩
    case measure=>simp [intOf];omega
   ·have b1:(ek==0)=false:=beq_eq_false_iff_ne.2 hz
    have HZ:=hid hz
    clear hz
    go_wp2_with (go_at_fn 92;refine (HC.out).mono ?_;rintro e w2 ⟨rfl,hw2,_⟩;have HW:=hid hw2;clear hw2)
    go_ret2
    exact fstEnds_some hlt (by rw [← HK.out];exact HZ.out) hE.out (by rw [← HK.out];rfl) HW.out
  ·have hke:k=n:=by omega
   subst hke
   go_wp2
   go_ret2
   exact fstEnds_none hE.out rfl (HIW.out _ _ hI.out) hI.out
theorem firstP_any (n:Nat) (hn:n≤1000) (v:Value) (E:Nat→Int) (p4 p1 p10:Nat) (Inv:Nat→World→Prop) (Wk:World→Prop) (w:World)
  (hIB:∀ k W W',Inv k W→Below W.heap.size W W'→Inv k W') (hWB:∀ W W',Wk W→Below W.heap.size W W'→Wk W') (hIW:∀ k W,Inv k W→Wk W)
  (hv:∃ a c,v = .slice a n c)
  (hrd:∀ k,k<n→∃ (x:Pt),∀ W,Inv k W→(∃ b o c,v = .slice (some ⟨b,o,none⟩) n c∧b<W.heap.size∧W.cell? ⟨b,o+k * 4,none⟩=some (.int .i64 x.rank)∧W.cell? ⟨b,o+k * 4+1,none⟩=some (.int .i64 x.shift)∧W.cell? ⟨b,o+k * 4+2,none⟩=some (.int .i64 x.lo)∧W.cell? ⟨b,o+k * 4+3,none⟩=some (.int .i64 x.hi)) ∧
   Calls Tryz.prog 88 #[.agg #[.int .i64 x.rank,.int .i64 x.shift,.int .i64 x.lo,.int .i64 x.hi],.pointer (some ⟨p4,0,none⟩),.pointer (some ⟨p1,0,none⟩),.pointer (some ⟨p10,0,none⟩)] W fun e w'=>e = .returned (.int .i64 (E k))∧Wk w'∧(E k=0→Inv (k+1) w'))
  (h0:Inv 0 w) :
  Calls Tryz.prog 90 #[v,.func (.func 88) #[] #[.pointer (some ⟨p4,0,none⟩),.pointer (some ⟨p1,0,none⟩),.pointer (some ⟨p10,0,none⟩)]] w (FstEnds E n Inv Wk):=by
 have eg:∀ args w,(callFunc 88 args).run Tryz.prog w = .ok (.enter 88 args) w:=enters_of Tryz.func88 (by kernel_rfl) rfl
 have HR:=hid hrd
 have HIB:=hid hIB
 have HIW:=hid hIW
 obtain ⟨a,c,rfl⟩:=hv
 clear hrd hIB hIW
 have HWB:=hid hWB
 clear hWB
 go_enter Tryz.func90,Tryz.ntmps90
 go_wp2
 go_loopw [11] (fun i wr=>∃ k:Nat,k≤n∧i = .int .i64 k∧Hid (∀ j,j<k→E j=0)∧Hid (Inv k wr)) (fun i _=>n-(intOf i).toNat)
 case atStart=>exact ⟨0,Nat.zero_le _,rfl,hid (fun j h=>absurd h (Nat.not_lt_zero j)),hid h0⟩
 case round =>
  obtain ⟨k,hk,rfl,hE,hI⟩:=hrel
  by_cases hlt:k<n
  ·obtain ⟨x,hx⟩:=HR.out k hlt
   obtain ⟨⟨b,o,c',hvv,hbl,r0,r1,r2,r3⟩,_⟩:=hx wr hI.out
   simp only [Value.slice.injEq] at hvv
   obtain ⟨rfl,_,rfl⟩:=hvv
   have HX:=hid hx
   clear hx
   have hi1:(0:Int)≤(k:Int):=Int.natCast_nonneg _
   have hi2:(k:Int)<(n:Int):=by omega
   have hb0:Below wr.heap.size wr (wr.alloc (.cells #[.int .i64 x.rank,.int .i64 x.shift,.int .i64 x.lo,.int .i64 x.hi] 105)):=(Below.refl _ _).alloc (Nat.le_refl _) _
   have HC:=hid (HX.out _ (HIB.out k _ _ hI.out hb0)).2
   obtain ⟨ek,hek⟩:∃ ek,ek=E k:=⟨_,rfl⟩
   rw [← hek] at HC
   have HK:=hid hek
   clear hek
   by_cases hz:ek=0
   ·subst hz
    go_wp2_with (go_at_fn 88;refine (HC.out).mono ?_;rintro e w2 ⟨rfl,hw2,hi2'⟩;have HN:=hid (hi2' rfl);clear hi2')
    go_roundw
    case rel=>exact ⟨k+1,by omega,by go_num,hid (fun j hj=>by rcases Nat.lt_succ_iff_lt_or_eq.1 hj with h | h;exact hE.out j h;rw [h];exact HK.out.symm),HN⟩
    case measure=>simp [intOf];omega
   ·have b1:(ek==0)=false:=beq_eq_false_iff_ne.2 hz
    have HZ:=hid hz
    clear hz
    go_wp2_with (go_at_fn 88;refine (HC.out).mono ?_;rintro e w2 ⟨rfl,hw2,_⟩;have HW:=hid hw2;clear hw2)
    go_ret2
    exact fstEnds_some hlt (by rw [← HK.out];exact HZ.out) hE.out (by rw [← HK.out];rfl) HW.out
  ·have hke:k=n:=by omega
   subst hke
   go_wp2
   go_ret2
   exact fstEnds_none hE.out rfl (HIW.out _ _ hI.out) hI.out
theorem digits_as (n:Int) (s:ByteArray) (hs:L s=Lib.itoa n) (w:World) (h1 : -9223372036854775808≤n) (h2:n≤9223372036854775807) (t:Tabs w) :
  Calls Tryz.prog 126 #[.int .i64 n] w fun e w'=>e = .returned (.string s)∧Below w.heap.size w w':=by
 have C:=formatInt_any n w h1 h2 t
 rw [mk_of_L hs] at C
 have H:=hid C
 clear C hs
 go_enter Tryz.func126,Tryz.ntmps126
 go_wp2_with (go_at_call 163;refine (H.out).mono ?_;rintro e w' ⟨rfl,hb⟩)
 go_ret
 exact ⟨rfl,hb⟩
def stK (n:Int):List UInt8:=[115,116,111,112,32]++Lib.itoa n
def stE0 (x:St) (nd:Nat) (ks:List (List UInt8 × List UInt8)):Int:=if nameB (L x.name)=false then 6 else if 0≤x.div∧x.div<nd then seenE (stK x.div) x.name ks (stE x) else 4
theorem stE0_form {x:St} {nd:Nat} {ks:List (List UInt8 × List UInt8)} (h:nameB (L x.name)=false):stE0 x nd ks=6:=by unfold stE0;rw [if_pos h]
theorem stE0_none {x:St} {nd:Nat} {ks:List (List UInt8 × List UInt8)} (h:nameB (L x.name)=true) (hd:¬ (0≤x.div∧x.div<nd)):stE0 x nd ks=4:=by unfold stE0;rw [if_neg (by rw [h];decide),if_neg hd]
theorem stE0_next {x:St} {nd:Nat} {ks:List (List UInt8 × List UInt8)} (h:nameB (L x.name)=true) (hd:0≤x.div∧x.div<nd):stE0 x nd ks=seenE (stK x.div) x.name ks (stE x):=by unfold stE0;rw [if_neg (by rw [h];decide),if_pos hd]
theorem stop_early (x:St) (pv:Value) (nd:Nat) (Bc Bm n:Nat) (a1:Option Addr) (c1:Nat) (v2 v3 v4:Value) (ks:List (List UInt8 × List UInt8)) (w:World) (hc:Chk w Bc Bm n (.slice a1 nd c1) v2 v3 v4 ks) (hz:x.name.size≤9223372036854775807) (hs:nd≤1000)
  (h:nameB (L x.name)=false∨nameB (L x.name)=true∧¬ (0≤x.div∧x.div<nd)) :
  Calls Tryz.prog 87 #[.pointer (some ⟨Bc,0,none⟩),.agg #[.string x.name,.int .i64 x.div,.int .i64 x.num,.int .i64 x.den,pv]] w (CkEnds Bc Bm n (.slice a1 nd c1) v2 v3 v4 (stK x.div) (L x.name) ks (stE0 x nd ks) w):=by
 have hb0:Below w.heap.size w (w.alloc (.cells #[.string x.name,.int .i64 x.div,.int .i64 x.num,.int .i64 x.den,pv] 66)):=(Below.refl _ _).alloc (Nat.le_refl _) _
 have hc0:=hc.below hb0
 obtain ⟨z0,z1,z2,z3,z4⟩:=hc0.cells
 have hcast:((nd:Nat):Int)≤1000:=by omega
 rcases h with h | ⟨h,hd⟩
 ·have CN:=hid (fun W=>name_is x.name false h W (by unfold maxLen;omega))
  have HE:=hid (stE0_form (nd:=nd) (ks:=ks) h)
  clear h
  go_enter Tryz.func87,Tryz.ntmps87
  go_wp2_with (go_at_call 125;with_reducible refine (CN.out _).mono ?_;rintro e w' ⟨rfl,rfl⟩)
  go_ret
  exact ckEnds_bad HE.out (by decide) (only_of Bm hb0)
 ·have CN:=hid (fun W=>name_is x.name true h W (by unfold maxLen;omega))
  have HE:=hid (stE0_none (ks:=ks) h hd)
  have W1:=fun W=>within_no' x.div 0 ((nd:Int)-1) W (by omega)
  clear h hd
  go_enter Tryz.func87,Tryz.ntmps87
  go_wp2_with (go_at_call 125;with_reducible refine (CN.out _).mono ?_;rintro e w' ⟨rfl,rfl⟩)
  go_quiet ((go_at_call 123;exact Calls.quiet_of_same (W1 _)))
  go_wp2
  go_ret
  exact ckEnds_bad HE.out (by decide) (only_of Bm (below_drewN hb0 _))
theorem stop_twice (x:St) (pv:Value) (nd:Nat) (Bc Bm n:Nat) (a1:Option Addr) (c1:Nat) (v2 v3 v4:Value) (ks:List (List UInt8 × List UInt8)) (w:World) (t:Tabs w) (hc:Chk w Bc Bm n (.slice a1 nd c1) v2 v3 v4 ks) (hz:x.name.size≤9223372036854775807) (hs:nd≤1000)
  (h:nameB (L x.name)=true) (hd:0≤x.div∧x.div<nd) (hm:(stK x.div,L x.name)∈ks) :
  Calls Tryz.prog 87 #[.pointer (some ⟨Bc,0,none⟩),.agg #[.string x.name,.int .i64 x.div,.int .i64 x.num,.int .i64 x.den,pv]] w (CkEnds Bc Bm n (.slice a1 nd c1) v2 v3 v4 (stK x.div) (L x.name) ks (stE0 x nd ks) w):=by
 have hb0:Below w.heap.size w (w.alloc (.cells #[.string x.name,.int .i64 x.div,.int .i64 x.num,.int .i64 x.den,pv] 66)):=(Below.refl _ _).alloc (Nat.le_refl _) _
 have hc0:=hc.below hb0
 have k0:Blk (w.alloc (.cells #[.string x.name,.int .i64 x.div,.int .i64 x.num,.int .i64 x.den,pv] 66)) w.heap.size 66 #[.string x.name,.int .i64 x.div,.int .i64 x.num,.int .i64 x.den,pv]:=Blk.new _ _ _
 obtain ⟨z0,z1,z2,z3,z4⟩:=hc0.cells
 have hcast:((nd:Nat):Int)≤1000:=by omega
 have CN:=hid (fun W=>name_is x.name true h W (by unfold maxLen;omega))
 have W1:=fun W=>within_yes' x.div 0 ((nd:Int)-1) W (by omega) (by omega)
 obtain ⟨ds,hds⟩:=mkL (Lib.itoa x.div)
 have hdz:ds.size≤21:=by rw [size_of_L hds];exact itoa_le x.div (by omega) (by omega)
 have HE:=hid (stE0_next (ks:=ks) h hd)
 have hmlt:=hc.seen.lt
 have t0:=t.below hb0
 have p1:¬ 9223372036854775807<5+ds.size:=by omega
 have hkz:((⟨#[115,116,111,112,32]⟩:ByteArray)++ds).size≤1000:=by simp only [ByteArray.size_append];have:(⟨#[115,116,111,112,32]⟩:ByteArray).size=5:=rfl;omega
 have hkl:L ((⟨#[115,116,111,112,32]⟩:ByteArray)++ds)=stK x.div:=by rw [L_append,hds];rfl
 have d1 : -9223372036854775808≤x.div:=by omega
 have d2:x.div≤9223372036854775807:=by omega
 have HD:=hid (seenE_twice (n:=stE x) h hm)
 have NM0:=fun W (hW:Chk W Bc Bm n (.slice a1 nd c1) v2 v3 v4 ks)=>named_twice ((⟨#[115,116,111,112,32]⟩:ByteArray)++ds) x.name Bc Bm n _ v2 v3 v4 ks W hW hkz hz h (by rw [hkl];exact hm)
 have HDS:=hid hds
 clear hd h hm hds hkl
 go_enter Tryz.func87,Tryz.ntmps87
 go_wp2_with (go_at_call 125;with_reducible refine (CN.out _).mono ?_;rintro e w' ⟨rfl,rfl⟩)
 go_quiet ((go_at_call 123;exact Calls.quiet_of_same (W1 _)))
 have hB:=below_drewN hb0 nq
 have kd:=k0.drewN nq
 have kc:Chk ((w.alloc (.cells #[.string x.name,.int .i64 x.div,.int .i64 x.num,.int .i64 x.den,pv] 66)).drewN nq) Bc Bm n (.slice a1 nd c1) v2 v3 v4 ks:=hc0.below (below_drewN (Below.refl _ _) nq)
 have t1:=t.below hB
 generalize (w.alloc (.cells #[.string x.name,.int .i64 x.div,.int .i64 x.num,.int .i64 x.den,pv] 66)).drewN nq=w1 at *
 clear z0 z1 z2 z3 z4 hc0 k0 hb0 t0
 have e0:=kd.cell 0
 have e1:=kd.cell 1
 have hdr:Below w1.heap.size w1 w1.drew:=(Below.refl _ _).drew
 have hrf:Below w1.heap.size w1 w1:=Below.refl _ _
 have DG:=hid (fun W (hW:Below w1.heap.size w1 W)=>(digits_as x.div ds HDS.out W d1 d2 (t1.below hW)).mono fun e w' (h:_∧Below W.heap.size W w')=>(⟨h.1,below_step hW h.2⟩:_∧Below w1.heap.size w1 w'))
 have NM:=hid (fun W (hW:Below w1.heap.size w1 W)=>NM0 W (kc.below hW))
 clear NM0
 go_wp2_with fail
 go_region_with (first | (go_at_call 126;refine (DG.out _ (by first | assumption | exact hdr)).mono ?_;rintro e w2 ⟨rfl,hb2⟩;have f0:=(kd.below hb2).cell 0) | (go_at_call 122;refine (NM.out _ (by assumption)).mono ?_;rintro e w' ⟨rfl,rfl⟩))
 all_goals go_wp2
 all_goals go_ret
 all_goals exact ckEnds_bad (HE.out.trans HD.out) (by decide) (only_of Bm (below_step hB (by assumption)))
theorem stop_nofeet (x:St) (pa:Option Addr) (pc:Nat) (nd:Nat) (Bc Bm n:Nat) (a1:Option Addr) (c1:Nat) (v2 v3 v4:Value) (ks:List (List UInt8 × List UInt8)) (w:World) (t:Tabs w) (hc:Chk w Bc Bm n (.slice a1 nd c1) v2 v3 v4 ks) (hz:x.name.size≤9223372036854775807) (hs:nd≤1000)
  (h:nameB (L x.name)=true) (hd:0≤x.div∧x.div<nd) (hm:(stK x.div,L x.name) ∉ ks) (hn:n≤100000) (hr:TabLt Bm) (hf:¬ FeetOk x.num x.den) :
  Calls Tryz.prog 87 #[.pointer (some ⟨Bc,0,none⟩),.agg #[.string x.name,.int .i64 x.div,.int .i64 x.num,.int .i64 x.den,.slice pa x.parts.length pc]] w (CkEnds Bc Bm n (.slice a1 nd c1) v2 v3 v4 (stK x.div) (L x.name) ks (stE0 x nd ks) w):=by
 have hb0:Below w.heap.size w (w.alloc (.cells #[.string x.name,.int .i64 x.div,.int .i64 x.num,.int .i64 x.den,.slice pa x.parts.length pc] 66)):=(Below.refl _ _).alloc (Nat.le_refl _) _
 have hc0:=hc.below hb0
 have k0:Blk (w.alloc (.cells #[.string x.name,.int .i64 x.div,.int .i64 x.num,.int .i64 x.den,.slice pa x.parts.length pc] 66)) w.heap.size 66 #[.string x.name,.int .i64 x.div,.int .i64 x.num,.int .i64 x.den,.slice pa x.parts.length pc]:=Blk.new _ _ _
 obtain ⟨z0,z1,z2,z3,z4⟩:=hc0.cells
 have hcast:((nd:Nat):Int)≤1000:=by omega
 have CN:=hid (fun W=>name_is x.name true h W (by unfold maxLen;omega))
 have W1:=fun W=>within_yes' x.div 0 ((nd:Int)-1) W (by omega) (by omega)
 obtain ⟨ds,hds⟩:=mkL (Lib.itoa x.div)
 have hdz:ds.size≤21:=by rw [size_of_L hds];exact itoa_le x.div (by omega) (by omega)
 have HE:=hid (stE0_next (ks:=ks) h hd)
 have hmlt:=hc.seen.lt
 have t0:=t.below hb0
 have p1:¬ 9223372036854775807<5+ds.size:=by omega
 have hkz:((⟨#[115,116,111,112,32]⟩:ByteArray)++ds).size≤1000:=by simp only [ByteArray.size_append];have:(⟨#[115,116,111,112,32]⟩:ByteArray).size=5:=rfl;omega
 have hkl:L ((⟨#[115,116,111,112,32]⟩:ByteArray)++ds)=stK x.div:=by rw [L_append,hds];rfl
 have d1 : -9223372036854775808≤x.div:=by omega
 have d2:x.div≤9223372036854775807:=by omega
 have HD:=hid (seenE_next (n:=stE x) h hm)
 have NM0:=fun W (hW:Chk W Bc Bm n (.slice a1 nd c1) v2 v3 v4 ks)=>named_new ((⟨#[115,116,111,112,32]⟩:ByteArray)++ds) x.name Bc Bm n _ v2 v3 v4 ks W hW hn hkz hz h (by rw [hkl];exact hm)
 rw [hkl] at NM0
 have HX:=hid (show stE x=2 by unfold stE;rw [if_neg (fun h=>hf h.1)])
 have F1:=hid (fun W=>footage_no x.num x.den W hf)
 clear hf
 have HDS:=hid hds
 clear hd h hm hds hkl
 go_enter Tryz.func87,Tryz.ntmps87
 go_wp2_with (go_at_call 125;with_reducible refine (CN.out _).mono ?_;rintro e w' ⟨rfl,rfl⟩)
 go_quiet ((go_at_call 123;exact Calls.quiet_of_same (W1 _)))
 have hB:=below_drewN hb0 nq
 have kd:=k0.drewN nq
 have kc:Chk ((w.alloc (.cells #[.string x.name,.int .i64 x.div,.int .i64 x.num,.int .i64 x.den,.slice pa x.parts.length pc] 66)).drewN nq) Bc Bm n (.slice a1 nd c1) v2 v3 v4 ks:=hc0.below (below_drewN (Below.refl _ _) nq)
 have t1:=t.below hB
 generalize (w.alloc (.cells #[.string x.name,.int .i64 x.div,.int .i64 x.num,.int .i64 x.den,.slice pa x.parts.length pc] 66)).drewN nq=w1 at *
 clear z0 z1 z2 z3 z4 hc0 k0 hb0 t0
 have e0:=kd.cell 0
 have e1:=kd.cell 1
 have hdr:Below w1.heap.size w1 w1.drew:=(Below.refl _ _).drew
 have hrf:Below w1.heap.size w1 w1:=Below.refl _ _
 have DG:=hid (fun W (hW:Below w1.heap.size w1 W)=>(digits_as x.div ds HDS.out W d1 d2 (t1.below hW)).mono fun e w' (h:_∧Below W.heap.size W w')=>(⟨h.1,below_step hW h.2⟩:_∧Below w1.heap.size w1 w'))
 have NM:=hid (fun W (hW:Below w1.heap.size w1 W)=>(NM0 W (kc.below hW)).mono fun e w' (h:_∧Chk w' Bc Bm (n+1) (.slice a1 nd c1) v2 v3 v4 ((stK x.div,L x.name) :: ks)∧W.grownBy w' (some Bm))=>(⟨h.1,h.2.1,only_trans (only_of Bm hW) h.2.2⟩:_∧Chk w' Bc Bm (n+1) (.slice a1 nd c1) v2 v3 v4 ((stK x.div,L x.name) :: ks)∧w1.grownBy w' (some Bm)))
 clear NM0
 go_wp2_with fail
 go_region_with (first | (go_at_call 126;refine (DG.out _ (by first | assumption | exact hdr)).mono ?_;rintro e w2 ⟨rfl,hb2⟩;have f0:=(kd.below hb2).cell 0) | (go_at_call 122;refine (NM.out _ (by assumption)).mono ?_;rintro e w3 ⟨rfl,hc3,hg3⟩;have hgw:=only_trans (only_of Bm hB) hg3;have k3:=kd.kept hg3 (fun e=>by have:=Option.some.inj e;omega);have y0:=k3.cell 0;have y1:=k3.cell 1;have y2:=k3.cell 2;have y3:=k3.cell 3;have y4:=k3.cell 4;have t3:=t1.grown hr hg3))
 all_goals go_wp2_with (go_at_call 124;with_reducible refine (F1.out _).mono ?_;rintro e w4 ⟨rfl,hb4⟩;have hgw2:=only_trail hgw hb4;have k4:=k3.below hb4;have hc4:=hc3.below hb4;have u0:=k4.cell 0;have u1:=k4.cell 1;have u2:=k4.cell 2;have u3:=k4.cell 3;have u4:=k4.cell 4)
 all_goals go_ret
 all_goals exact ckEnds_bad (HE.out.trans (HD.out.trans HX.out)) (by decide) hgw2
theorem stop_noparts (x:St) (pa:Option Addr) (pc:Nat) (nd:Nat) (Bc Bm n:Nat) (a1:Option Addr) (c1:Nat) (v2 v3 v4:Value) (ks:List (List UInt8 × List UInt8)) (w:World) (t:Tabs w) (hc:Chk w Bc Bm n (.slice a1 nd c1) v2 v3 v4 ks) (hz:x.name.size≤9223372036854775807) (hs:nd≤1000)
  (h:nameB (L x.name)=true) (hd:0≤x.div∧x.div<nd) (hm:(stK x.div,L x.name) ∉ ks) (hn:n≤100000) (hr:TabLt Bm) (hf:FeetOk x.num x.den) (hp:x.parts.length=0) :
  Calls Tryz.prog 87 #[.pointer (some ⟨Bc,0,none⟩),.agg #[.string x.name,.int .i64 x.div,.int .i64 x.num,.int .i64 x.den,.slice pa x.parts.length pc]] w (CkEnds Bc Bm n (.slice a1 nd c1) v2 v3 v4 (stK x.div) (L x.name) ks (stE0 x nd ks) w):=by
 have hb0:Below w.heap.size w (w.alloc (.cells #[.string x.name,.int .i64 x.div,.int .i64 x.num,.int .i64 x.den,.slice pa x.parts.length pc] 66)):=(Below.refl _ _).alloc (Nat.le_refl _) _
 have hc0:=hc.below hb0
 have k0:Blk (w.alloc (.cells #[.string x.name,.int .i64 x.div,.int .i64 x.num,.int .i64 x.den,.slice pa x.parts.length pc] 66)) w.heap.size 66 #[.string x.name,.int .i64 x.div,.int .i64 x.num,.int .i64 x.den,.slice pa x.parts.length pc]:=Blk.new _ _ _
 obtain ⟨z0,z1,z2,z3,z4⟩:=hc0.cells
 have hcast:((nd:Nat):Int)≤1000:=by omega
 have CN:=hid (fun W=>name_is x.name true h W (by unfold maxLen;omega))
 have W1:=fun W=>within_yes' x.div 0 ((nd:Int)-1) W (by omega) (by omega)
 obtain ⟨ds,hds⟩:=mkL (Lib.itoa x.div)
 have hdz:ds.size≤21:=by rw [size_of_L hds];exact itoa_le x.div (by omega) (by omega)
 have HE:=hid (stE0_next (ks:=ks) h hd)
 have hmlt:=hc.seen.lt
 have t0:=t.below hb0
 have p1:¬ 9223372036854775807<5+ds.size:=by omega
 have hkz:((⟨#[115,116,111,112,32]⟩:ByteArray)++ds).size≤1000:=by simp only [ByteArray.size_append];have:(⟨#[115,116,111,112,32]⟩:ByteArray).size=5:=rfl;omega
 have hkl:L ((⟨#[115,116,111,112,32]⟩:ByteArray)++ds)=stK x.div:=by rw [L_append,hds];rfl
 have d1 : -9223372036854775808≤x.div:=by omega
 have d2:x.div≤9223372036854775807:=by omega
 have HD:=hid (seenE_next (n:=stE x) h hm)
 have NM0:=fun W (hW:Chk W Bc Bm n (.slice a1 nd c1) v2 v3 v4 ks)=>named_new ((⟨#[115,116,111,112,32]⟩:ByteArray)++ds) x.name Bc Bm n _ v2 v3 v4 ks W hW hn hkz hz h (by rw [hkl];exact hm)
 rw [hkl] at NM0
 have HX:=hid (show stE x=2 by unfold stE;rw [if_neg (fun h=>by omega)])
 have F1:=hid (fun W T=>footage_yes x.num x.den W T hf)
 have b1:((x.parts.length:Int)==0)=true:=by rw [beq_iff_eq];omega
 clear hf hp
 have HDS:=hid hds
 clear hd h hm hds hkl
 go_enter Tryz.func87,Tryz.ntmps87
 go_wp2_with (go_at_call 125;with_reducible refine (CN.out _).mono ?_;rintro e w' ⟨rfl,rfl⟩)
 go_quiet ((go_at_call 123;exact Calls.quiet_of_same (W1 _)))
 have hB:=below_drewN hb0 nq
 have kd:=k0.drewN nq
 have kc:Chk ((w.alloc (.cells #[.string x.name,.int .i64 x.div,.int .i64 x.num,.int .i64 x.den,.slice pa x.parts.length pc] 66)).drewN nq) Bc Bm n (.slice a1 nd c1) v2 v3 v4 ks:=hc0.below (below_drewN (Below.refl _ _) nq)
 have t1:=t.below hB
 generalize (w.alloc (.cells #[.string x.name,.int .i64 x.div,.int .i64 x.num,.int .i64 x.den,.slice pa x.parts.length pc] 66)).drewN nq=w1 at *
 clear z0 z1 z2 z3 z4 hc0 k0 hb0 t0
 have e0:=kd.cell 0
 have e1:=kd.cell 1
 have hdr:Below w1.heap.size w1 w1.drew:=(Below.refl _ _).drew
 have hrf:Below w1.heap.size w1 w1:=Below.refl _ _
 have DG:=hid (fun W (hW:Below w1.heap.size w1 W)=>(digits_as x.div ds HDS.out W d1 d2 (t1.below hW)).mono fun e w' (h:_∧Below W.heap.size W w')=>(⟨h.1,below_step hW h.2⟩:_∧Below w1.heap.size w1 w'))
 have NM:=hid (fun W (hW:Below w1.heap.size w1 W)=>(NM0 W (kc.below hW)).mono fun e w' (h:_∧Chk w' Bc Bm (n+1) (.slice a1 nd c1) v2 v3 v4 ((stK x.div,L x.name) :: ks)∧W.grownBy w' (some Bm))=>(⟨h.1,h.2.1,only_trans (only_of Bm hW) h.2.2⟩:_∧Chk w' Bc Bm (n+1) (.slice a1 nd c1) v2 v3 v4 ((stK x.div,L x.name) :: ks)∧w1.grownBy w' (some Bm)))
 clear NM0
 go_wp2_with fail
 go_region_with (first | (go_at_call 126;refine (DG.out _ (by first | assumption | exact hdr)).mono ?_;rintro e w2 ⟨rfl,hb2⟩;have f0:=(kd.below hb2).cell 0) | (go_at_call 122;refine (NM.out _ (by assumption)).mono ?_;rintro e w3 ⟨rfl,hc3,hg3⟩;have hgw:=only_trans (only_of Bm hB) hg3;have k3:=kd.kept hg3 (fun e=>by have:=Option.some.inj e;omega);have y0:=k3.cell 0;have y1:=k3.cell 1;have y2:=k3.cell 2;have y3:=k3.cell 3;have y4:=k3.cell 4;have t3:=t1.grown hr hg3))
 all_goals go_wp2_with (go_at_call 124;with_reducible refine (F1.out _ (by assumption)).mono ?_;rintro e w4 ⟨rfl,hb4⟩;have hgw2:=only_trail hgw hb4;have k4:=k3.below hb4;have hc4:=hc3.below hb4;have u0:=k4.cell 0;have u1:=k4.cell 1;have u2:=k4.cell 2;have u3:=k4.cell 3;have u4:=k4.cell 4)
 all_goals go_ret
 all_goals exact ckEnds_bad (HE.out.trans (HD.out.trans HX.out)) (by decide) hgw2
theorem stop_many (x:St) (pa:Option Addr) (pc:Nat) (nd:Nat) (Bc Bm n:Nat) (a1:Option Addr) (c1:Nat) (v2 v3 v4:Value) (ks:List (List UInt8 × List UInt8)) (w:World) (t:Tabs w) (hc:Chk w Bc Bm n (.slice a1 nd c1) v2 v3 v4 ks) (hz:x.name.size≤9223372036854775807) (hs:nd≤1000)
  (h:nameB (L x.name)=true) (hd:0≤x.div∧x.div<nd) (hm:(stK x.div,L x.name) ∉ ks) (hn:n≤100000) (hr:TabLt Bm) (hpl:x.parts.length≤1000) (hf:FeetOk x.num x.den) (hp:12<x.parts.length) :
  Calls Tryz.prog 87 #[.pointer (some ⟨Bc,0,none⟩),.agg #[.string x.name,.int .i64 x.div,.int .i64 x.num,.int .i64 x.den,.slice pa x.parts.length pc]] w (CkEnds Bc Bm n (.slice a1 nd c1) v2 v3 v4 (stK x.div) (L x.name) ks (stE0 x nd ks) w):=by
 have hb0:Below w.heap.size w (w.alloc (.cells #[.string x.name,.int .i64 x.div,.int .i64 x.num,.int .i64 x.den,.slice pa x.parts.length pc] 66)):=(Below.refl _ _).alloc (Nat.le_refl _) _
 have hc0:=hc.below hb0
 have k0:Blk (w.alloc (.cells #[.string x.name,.int .i64 x.div,.int .i64 x.num,.int .i64 x.den,.slice pa x.parts.length pc] 66)) w.heap.size 66 #[.string x.name,.int .i64 x.div,.int .i64 x.num,.int .i64 x.den,.slice pa x.parts.length pc]:=Blk.new _ _ _
 obtain ⟨z0,z1,z2,z3,z4⟩:=hc0.cells
 have hcast:((nd:Nat):Int)≤1000:=by omega
 have CN:=hid (fun W=>name_is x.name true h W (by unfold maxLen;omega))
 have W1:=fun W=>within_yes' x.div 0 ((nd:Int)-1) W (by omega) (by omega)
 obtain ⟨ds,hds⟩:=mkL (Lib.itoa x.div)
 have hdz:ds.size≤21:=by rw [size_of_L hds];exact itoa_le x.div (by omega) (by omega)
 have HE:=hid (stE0_next (ks:=ks) h hd)
 have hmlt:=hc.seen.lt
 have t0:=t.below hb0
 have p1:¬ 9223372036854775807<5+ds.size:=by omega
 have hkz:((⟨#[115,116,111,112,32]⟩:ByteArray)++ds).size≤1000:=by simp only [ByteArray.size_append];have:(⟨#[115,116,111,112,32]⟩:ByteArray).size=5:=rfl;omega
 have hkl:L ((⟨#[115,116,111,112,32]⟩:ByteArray)++ds)=stK x.div:=by rw [L_append,hds];rfl
 have d1 : -9223372036854775808≤x.div:=by omega
 have d2:x.div≤9223372036854775807:=by omega
 have HD:=hid (seenE_next (n:=stE x) h hm)
 have NM0:=fun W (hW:Chk W Bc Bm n (.slice a1 nd c1) v2 v3 v4 ks)=>named_new ((⟨#[115,116,111,112,32]⟩:ByteArray)++ds) x.name Bc Bm n _ v2 v3 v4 ks W hW hn hkz hz h (by rw [hkl];exact hm)
 rw [hkl] at NM0
 have HX:=hid (show stE x=3 by unfold stE;rw [if_pos ⟨hf,by omega⟩,if_neg (by omega)])
 have F1:=hid (fun W T=>footage_yes x.num x.den W T hf)
 have b1:((x.parts.length:Int)==0)=false:=by rw [beq_eq_false_iff_ne];omega
 have b2:(12:Int)<(x.parts.length:Int):=by omega
 clear hf
 have HDS:=hid hds
 clear hd h hm hds hkl
 go_enter Tryz.func87,Tryz.ntmps87
 go_wp2_with (go_at_call 125;with_reducible refine (CN.out _).mono ?_;rintro e w' ⟨rfl,rfl⟩)
 go_quiet ((go_at_call 123;exact Calls.quiet_of_same (W1 _)))
 have hB:=below_drewN hb0 nq
 have kd:=k0.drewN nq
 have kc:Chk ((w.alloc (.cells #[.string x.name,.int .i64 x.div,.int .i64 x.num,.int .i64 x.den,.slice pa x.parts.length pc] 66)).drewN nq) Bc Bm n (.slice a1 nd c1) v2 v3 v4 ks:=hc0.below (below_drewN (Below.refl _ _) nq)
 have t1:=t.below hB
 generalize (w.alloc (.cells #[.string x.name,.int .i64 x.div,.int .i64 x.num,.int .i64 x.den,.slice pa x.parts.length pc] 66)).drewN nq=w1 at *
 clear z0 z1 z2 z3 z4 hc0 k0 hb0 t0
 have e0:=kd.cell 0
 have e1:=kd.cell 1
 have hdr:Below w1.heap.size w1 w1.drew:=(Below.refl _ _).drew
 have hrf:Below w1.heap.size w1 w1:=Below.refl _ _
 have DG:=hid (fun W (hW:Below w1.heap.size w1 W)=>(digits_as x.div ds HDS.out W d1 d2 (t1.below hW)).mono fun e w' (h:_∧Below W.heap.size W w')=>(⟨h.1,below_step hW h.2⟩:_∧Below w1.heap.size w1 w'))
 have NM:=hid (fun W (hW:Below w1.heap.size w1 W)=>(NM0 W (kc.below hW)).mono fun e w' (h:_∧Chk w' Bc Bm (n+1) (.slice a1 nd c1) v2 v3 v4 ((stK x.div,L x.name) :: ks)∧W.grownBy w' (some Bm))=>(⟨h.1,h.2.1,only_trans (only_of Bm hW) h.2.2⟩:_∧Chk w' Bc Bm (n+1) (.slice a1 nd c1) v2 v3 v4 ((stK x.div,L x.name) :: ks)∧w1.grownBy w' (some Bm)))
 clear NM0
 go_wp2_with fail
 go_region_with (first | (go_at_call 126;refine (DG.out _ (by first | assumption | exact hdr)).mono ?_;rintro e w2 ⟨rfl,hb2⟩;have f0:=(kd.below hb2).cell 0) | (go_at_call 122;refine (NM.out _ (by assumption)).mono ?_;rintro e w3 ⟨rfl,hc3,hg3⟩;have hgw:=only_trans (only_of Bm hB) hg3;have k3:=kd.kept hg3 (fun e=>by have:=Option.some.inj e;omega);have y0:=k3.cell 0;have y1:=k3.cell 1;have y2:=k3.cell 2;have y3:=k3.cell 3;have y4:=k3.cell 4;have t3:=t1.grown hr hg3))
 all_goals go_wp2_with (go_at_call 124;with_reducible refine (F1.out _ (by assumption)).mono ?_;rintro e w4 ⟨rfl,hb4⟩;have hgw2:=only_trail hgw hb4;have k4:=k3.below hb4;have hc4:=hc3.below hb4;have u0:=k4.cell 0;have u1:=k4.cell 1;have u2:=k4.cell 2;have u3:=k4.cell 3;have u4:=k4.cell 4)
 all_goals go_ret
 all_goals exact ckEnds_bad (HE.out.trans (HD.out.trans HX.out)) (by decide) hgw2
theorem stop_good (x:St) (pa:Option Addr) (pc:Nat) (nd:Nat) (Bc Bm n:Nat) (a1:Option Addr) (c1:Nat) (v2 v3 v4:Value) (ks:List (List UInt8 × List UInt8)) (w:World) (t:Tabs w) (hc:Chk w Bc Bm n (.slice a1 nd c1) v2 v3 v4 ks) (hz:x.name.size≤9223372036854775807) (hs:nd≤1000)
  (h:nameB (L x.name)=true) (hd:0≤x.div∧x.div<nd) (hm:(stK x.div,L x.name) ∉ ks) (hn:n≤100000) (hr:TabLt Bm) (hpl:x.parts.length≤1000) (hf:FeetOk x.num x.den) (hp:0<x.parts.length) (hp2:x.parts.length≤12) :
  Calls Tryz.prog 87 #[.pointer (some ⟨Bc,0,none⟩),.agg #[.string x.name,.int .i64 x.div,.int .i64 x.num,.int .i64 x.den,.slice pa x.parts.length pc]] w (CkEnds Bc Bm n (.slice a1 nd c1) v2 v3 v4 (stK x.div) (L x.name) ks (stE0 x nd ks) w):=by
 have hb0:Below w.heap.size w (w.alloc (.cells #[.string x.name,.int .i64 x.div,.int .i64 x.num,.int .i64 x.den,.slice pa x.parts.length pc] 66)):=(Below.refl _ _).alloc (Nat.le_refl _) _
 have hc0:=hc.below hb0
 have k0:Blk (w.alloc (.cells #[.string x.name,.int .i64 x.div,.int .i64 x.num,.int .i64 x.den,.slice pa x.parts.length pc] 66)) w.heap.size 66 #[.string x.name,.int .i64 x.div,.int .i64 x.num,.int .i64 x.den,.slice pa x.parts.length pc]:=Blk.new _ _ _
 obtain ⟨z0,z1,z2,z3,z4⟩:=hc0.cells
 have hcast:((nd:Nat):Int)≤1000:=by omega
 have CN:=hid (fun W=>name_is x.name true h W (by unfold maxLen;omega))
 have W1:=fun W=>within_yes' x.div 0 ((nd:Int)-1) W (by omega) (by omega)
 obtain ⟨ds,hds⟩:=mkL (Lib.itoa x.div)
 have hdz:ds.size≤21:=by rw [size_of_L hds];exact itoa_le x.div (by omega) (by omega)
 have HE:=hid (stE0_next (ks:=ks) h hd)
 have hmlt:=hc.seen.lt
 have t0:=t.below hb0
 have p1:¬ 9223372036854775807<5+ds.size:=by omega
 have hkz:((⟨#[115,116,111,112,32]⟩:ByteArray)++ds).size≤1000:=by simp only [ByteArray.size_append];have:(⟨#[115,116,111,112,32]⟩:ByteArray).size=5:=rfl;omega
 have hkl:L ((⟨#[115,116,111,112,32]⟩:ByteArray)++ds)=stK x.div:=by rw [L_append,hds];rfl
 have d1 : -9223372036854775808≤x.div:=by omega
 have d2:x.div≤9223372036854775807:=by omega
 have HD:=hid (seenE_next (n:=stE x) h hm)
 have NM0:=fun W (hW:Chk W Bc Bm n (.slice a1 nd c1) v2 v3 v4 ks)=>named_new ((⟨#[115,116,111,112,32]⟩:ByteArray)++ds) x.name Bc Bm n _ v2 v3 v4 ks W hW hn hkz hz h (by rw [hkl];exact hm)
 rw [hkl] at NM0
 have HX:=hid (show stE x=0 by unfold stE;rw [if_pos ⟨hf,by omega⟩,if_pos hp2])
 have F1:=hid (fun W T=>footage_yes x.num x.den W T hf)
 have b1:((x.parts.length:Int)==0)=false:=by rw [beq_eq_false_iff_ne];omega
 have b2:(x.parts.length:Int)≤12:=by omega
 clear hf
 have HDS:=hid hds
 clear hd h hm hds hkl
 go_enter Tryz.func87,Tryz.ntmps87
 go_wp2_with (go_at_call 125;with_reducible refine (CN.out _).mono ?_;rintro e w' ⟨rfl,rfl⟩)
 go_quiet ((go_at_call 123;exact Calls.quiet_of_same (W1 _)))
 have hB:=below_drewN hb0 nq
 have kd:=k0.drewN nq
 have kc:Chk ((w.alloc (.cells #[.string x.name,.int .i64 x.div,.int .i64 x.num,.int .i64 x.den,.slice pa x.parts.length pc] 66)).drewN nq) Bc Bm n (.slice a1 nd c1) v2 v3 v4 ks:=hc0.below (below_drewN (Below.refl _ _) nq)
 have t1:=t.below hB
 generalize (w.alloc (.cells #[.string x.name,.int .i64 x.div,.int .i64 x.num,.int .i64 x.den,.slice pa x.parts.length pc] 66)).drewN nq=w1 at *
 clear z0 z1 z2 z3 z4 hc0 k0 hb0 t0
 have e0:=kd.cell 0
 have e1:=kd.cell 1
 have hdr:Below w1.heap.size w1 w1.drew:=(Below.refl _ _).drew
 have hrf:Below w1.heap.size w1 w1:=Below.refl _ _
 have DG:=hid (fun W (hW:Below w1.heap.size w1 W)=>(digits_as x.div ds HDS.out W d1 d2 (t1.below hW)).mono fun e w' (h:_∧Below W.heap.size W w')=>(⟨h.1,below_step hW h.2⟩:_∧Below w1.heap.size w1 w'))
 have NM:=hid (fun W (hW:Below w1.heap.size w1 W)=>(NM0 W (kc.below hW)).mono fun e w' (h:_∧Chk w' Bc Bm (n+1) (.slice a1 nd c1) v2 v3 v4 ((stK x.div,L x.name) :: ks)∧W.grownBy w' (some Bm))=>(⟨h.1,h.2.1,only_trans (only_of Bm hW) h.2.2⟩:_∧Chk w' Bc Bm (n+1) (.slice a1 nd c1) v2 v3 v4 ((stK x.div,L x.name) :: ks)∧w1.grownBy w' (some Bm)))
 clear NM0
 go_wp2_with fail
 go_region_with (first | (go_at_call 126;refine (DG.out _ (by first | assumption | exact hdr)).mono ?_;rintro e w2 ⟨rfl,hb2⟩;have f0:=(kd.below hb2).cell 0) | (go_at_call 122;refine (NM.out _ (by assumption)).mono ?_;rintro e w3 ⟨rfl,hc3,hg3⟩;have hgw:=only_trans (only_of Bm hB) hg3;have k3:=kd.kept hg3 (fun e=>by have:=Option.some.inj e;omega);have y0:=k3.cell 0;have y1:=k3.cell 1;have y2:=k3.cell 2;have y3:=k3.cell 3;have y4:=k3.cell 4;have t3:=t1.grown hr hg3))
 all_goals go_wp2_with (go_at_call 124;with_reducible refine (F1.out _ (by assumption)).mono ?_;rintro e w4 ⟨rfl,hb4⟩;have hgw2:=only_trail hgw hb4;have k4:=k3.below hb4;have hc4:=hc3.below hb4;have u0:=k4.cell 0;have u1:=k4.cell 1;have u2:=k4.cell 2;have u3:=k4.cell 3;have u4:=k4.cell 4)
 all_goals go_ret
 all_goals exact ckEnds_good (HE.out.trans (HD.out.trans HX.out)) hgw2 hc4
theorem stop_any (x:St) (pa:Option Addr) (pc:Nat) (nd:Nat) (Bc Bm n:Nat) (a1:Option Addr) (c1:Nat) (v2 v3 v4:Value) (ks:List (List UInt8 × List UInt8)) (w:World) (t:Tabs w) (hr:TabLt Bm) (hc:Chk w Bc Bm n (.slice a1 nd c1) v2 v3 v4 ks) (hn:n≤100000) (hz:x.name.size≤9223372036854775807) (hs:nd≤1000) (hpl:x.parts.length≤1000) :
  Calls Tryz.prog 87 #[.pointer (some ⟨Bc,0,none⟩),.agg #[.string x.name,.int .i64 x.div,.int .i64 x.num,.int .i64 x.den,.slice pa x.parts.length pc]] w (CkEnds Bc Bm n (.slice a1 nd c1) v2 v3 v4 (stK x.div) (L x.name) ks (stE0 x nd ks) w):=by
 cases h:nameB (L x.name) with
 | false=>exact stop_early x _ nd Bc Bm n a1 c1 v2 v3 v4 ks w hc hz hs (.inl h)
 | true =>
  by_cases hd:0≤x.div∧x.div<nd
  ·by_cases hm:(stK x.div,L x.name)∈ks
   ·exact stop_twice x _ nd Bc Bm n a1 c1 v2 v3 v4 ks w t hc hz hs h hd hm
   ·by_cases hf:FeetOk x.num x.den
    ·by_cases hp:x.parts.length=0
     ·exact stop_noparts x pa pc nd Bc Bm n a1 c1 v2 v3 v4 ks w t hc hz hs h hd hm hn hr hf hp
     ·by_cases hp2:12<x.parts.length
      ·exact stop_many x pa pc nd Bc Bm n a1 c1 v2 v3 v4 ks w t hc hz hs h hd hm hn hr hpl hf hp2
      ·exact stop_good x pa pc nd Bc Bm n a1 c1 v2 v3 v4 ks w t hc hz hs h hd hm hn hr hpl hf (by omega) (by omega)
    ·exact stop_nofeet x pa pc nd Bc Bm n a1 c1 v2 v3 v4 ks w t hc hz hs h hd hm hn hr hf
  ·exact stop_early x _ nd Bc Bm n a1 c1 v2 v3 v4 ks w hc hz hs (.inr ⟨h,hd⟩)
def keysG {α:Type} (g:α→List UInt8 × List UInt8) (l:List α) (ks0:List (List UInt8 × List UInt8)):List (List UInt8 × List UInt8):=l.foldl (fun acc x=>g x :: acc) ks0
theorem keysG_snoc {α:Type} (g:α→List UInt8 × List UInt8) (l:List α) (x:α) (ks0:List (List UInt8 × List UInt8)):keysG g (l++[x]) ks0=g x :: keysG g l ks0:=by
 unfold keysG
 rw [List.foldl_append]
 rfl
theorem keysG_take {α:Type} (g:α→List UInt8 × List UInt8) (l:List α) (k:Nat) (h:k<l.length) (ks0:List (List UInt8 × List UInt8)):keysG g (l.take (k+1)) ks0=g l[k] :: keysG g (l.take k) ks0:=by
 rw [List.take_succ_eq_append_getElem h,keysG_snoc]
theorem mem_keysG {α:Type} (g:α→List UInt8 × List UInt8) (p:List UInt8 × List UInt8):∀ (l:List α) (ks0:List (List UInt8 × List UInt8)),p∈keysG g l ks0↔(∃ x∈l,g x=p)∨p∈ks0
 | [],ks0=>by simp [keysG]
 | y :: l,ks0=>by
  have ih:=mem_keysG g p l (g y :: ks0)
  have e:keysG g (y :: l) ks0=keysG g l (g y :: ks0):=rfl
  rw [e,ih]
  simp only [List.mem_cons,exists_eq_or_imp]
  constructor
  ·rintro (h | h | h)
   ·exact .inl (.inr h)
   ·exact .inl (.inl h.symm)
   ·exact .inr h
  ·rintro ((h | h) | h)
   ·exact .inr (.inl h.symm)
   ·exact .inl h
   ·exact .inr (.inr h)
def gD (d:Dv):List UInt8 × List UInt8:=(dvK,L d.name)
def gR (r:Rk):List UInt8 × List UInt8:=(rkK,L r.name)
def gS (x:St):List UInt8 × List UInt8:=(stK x.div,L x.name)
def gC (c:Cp):List UInt8 × List UInt8:=(cpK,L c.name)
def ksD (S:Sp) (k:Nat):List (List UInt8 × List UInt8):=keysG gD (S.ds.take k) []
def ksR (S:Sp) (k:Nat):List (List UInt8 × List UInt8):=keysG gR (S.rs.take k) (ksD S S.ds.length)
def ksS (S:Sp) (k:Nat):List (List UInt8 × List UInt8):=keysG gS (S.ss.take k) (ksR S S.rs.length)
def ksC (S:Sp) (k:Nat):List (List UInt8 × List UInt8):=keysG gC (S.cs.take k) (ksS S S.ss.length)
theorem seenE_nmE {k:List UInt8} {nm:ByteArray} {ks:List (List UInt8 × List UInt8)} {es:List ByteArray} (n:Int) (h:(k,L nm)∈ks↔L nm∈es.map L):seenE k nm ks n=nmE nm es n:=by
 unfold seenE nmE
 by_cases h1:nameB (L nm)=false
 ·rw [if_pos h1,if_pos h1]
 ·rw [if_neg h1,if_neg h1]
  by_cases h2:(k,L nm)∈ks
  ·rw [if_pos h2,if_pos (h.1 h2)]
  ·rw [if_neg h2,if_neg (fun x=>h2 (h.2 x))]
theorem mem_names {α:Type} {l:List α} {f:α→ByteArray} {x:List UInt8}:x∈(l.map f).map L↔∃ y∈l,L (f y)=x:=by simp
theorem ksD_kind {S:Sp} {k:Nat} {p:List UInt8 × List UInt8} (h:p∈ksD S k):p.1=dvK:=by
 rcases (mem_keysG _ _ _ _).1 h with ⟨x,_,rfl⟩ | h
 ·rfl
 ·cases h
theorem ksR_kind {S:Sp} {k:Nat} {p:List UInt8 × List UInt8} (h:p∈ksR S k):p.1=rkK∨p.1=dvK:=by
 rcases (mem_keysG _ _ _ _).1 h with ⟨x,_,rfl⟩ | h
 ·exact .inl rfl
 ·exact .inr (ksD_kind h)
theorem ksS_kind {S:Sp} {k:Nat} {p:List UInt8 × List UInt8} (h:p∈ksS S k):(∃ n,p.1=stK n)∨p.1=rkK∨p.1=dvK:=by
 rcases (mem_keysG _ _ _ _).1 h with ⟨x,_,rfl⟩ | h
 ·exact .inl ⟨_,rfl⟩
 ·exact .inr (ksR_kind h)
theorem seenD {S:Sp} {k:Nat} (h:k<S.ds.length):seenE dvK S.ds[k].name (ksD S k) (dvE S.ds[k])=errD S k:=by
 rw [errD_is h]
 refine seenE_nmE _ ?_
 unfold ksD
 rw [mem_keysG,mem_names]
 constructor
 ·rintro (⟨x,hx,e⟩ | h)
  ·exact ⟨x,hx,(Prod.mk.inj e).2⟩
  ·cases h
 ·rintro ⟨x,hx,e⟩
  exact .inl ⟨x,hx,by unfold gD;rw [e]⟩
theorem seenR {S:Sp} {k:Nat} (h:k<S.rs.length):seenE rkK S.rs[k].name (ksR S k) (rkE S.rs[k])=errR S k:=by
 rw [errR_is h]
 refine seenE_nmE _ ?_
 unfold ksR
 rw [mem_keysG,mem_names]
 constructor
 ·rintro (⟨x,hx,e⟩ | h)
  ·exact ⟨x,hx,(Prod.mk.inj e).2⟩
  ·exact absurd (show rkK=dvK from ksD_kind h) (by decide)
 ·rintro ⟨x,hx,e⟩
  exact .inl ⟨x,hx,by unfold gR;rw [e]⟩
theorem seenC {S:Sp} {k:Nat} (h:k<S.cs.length):seenE cpK S.cs[k].name (ksC S k) (cpE S S.cs[k])=errC S k:=by
 rw [errC_is h]
 refine seenE_nmE _ ?_
 unfold ksC
 rw [mem_keysG,mem_names]
 constructor
 ·rintro (⟨x,hx,e⟩ | h)
  ·exact ⟨x,hx,(Prod.mk.inj e).2⟩
  ·rcases ksS_kind h with ⟨n,e⟩ | e | e
   ·have:=(List.cons.inj (show (99:UInt8) :: [111,117,112,108,101,114]=115 :: _ from e)).1
    exact absurd this (by decide)
   ·exact absurd (show cpK=rkK from e) (by decide)
   ·exact absurd (show cpK=dvK from e) (by decide)
 ·rintro ⟨x,hx,e⟩
  exact .inl ⟨x,hx,by unfold gC;rw [e]⟩
theorem itoa_small_inj:∀ i j:Fin 6,Lib.itoa ((i.val:Nat):Int)=Lib.itoa ((j.val:Nat):Int)→i=j:=by decide +kernel
theorem stK_inj {a b:Int} (ha:0≤a) (ha2:a<6) (hb:0≤b) (hb2:b<6) (h:stK a=stK b):a=b:=by
 obtain ⟨i,rfl⟩:=Int.eq_ofNat_of_zero_le ha
 obtain ⟨j,rfl⟩:=Int.eq_ofNat_of_zero_le hb
 unfold stK at h
 have h2:=List.append_cancel_left h
 have:=itoa_small_inj ⟨i,by omega⟩ ⟨j,by omega⟩ h2
 have:=congrArg Fin.val this
 simp only at this
 omega
theorem errS_div {S:Sp} {i:Nat} (hi:i<S.ss.length) (h:errS S i=0):0≤S.ss[i].div∧S.ss[i].div<S.ds.length:=by
 rw [errS_is hi] at h
 split at h
 ·cases h
 ·split at h
  ·next hd=>exact hd
  ·cases h
theorem seenS {S:Sp} {k:Nat} (h:k<S.ss.length) (h6:S.ds.length≤6) (he:∀ j,j<k→errS S j=0):stE0 S.ss[k] S.ds.length (ksS S k)=errS S k:=by
 rw [errS_is h]
 unfold stE0
 by_cases h1:nameB (L S.ss[k].name)=false
 ·rw [if_pos h1,if_pos h1]
 ·rw [if_neg h1,if_neg h1]
  by_cases h2:0≤S.ss[k].div∧S.ss[k].div<S.ds.length
  ·rw [if_pos h2,if_pos h2]
   refine seenE_nmE _ ?_
   unfold ksS
   rw [mem_keysG,mem_names]
   constructor
   ·rintro (⟨x,hx,e⟩ | h)
    ·refine ⟨x,List.mem_filter.2 ⟨hx,?_⟩,(Prod.mk.inj e).2⟩
     rw [List.mem_take_iff_getElem] at hx
     obtain ⟨j,hj,rfl⟩:=hx
     have hd:=errS_div (by omega) (he j (by omega))
     have:=stK_inj hd.1 (by omega) h2.1 (by omega) (Prod.mk.inj e).1
     simpa using this
    ·rcases ksR_kind h with e | e
     ·have:=(List.cons.inj (show (115:UInt8) :: _=114 :: _ from e)).1
      exact absurd this (by decide)
     ·have:=(List.cons.inj (show (115:UInt8) :: _=100 :: _ from e)).1
      exact absurd this (by decide)
   ·rintro ⟨x,hx,e⟩
    rw [List.mem_filter] at hx
    exact .inl ⟨x,hx.1,by unfold gS;rw [e,show x.div=S.ss[k].div by simpa using hx.2]⟩
  ·rw [if_neg h2,if_neg h2]
theorem held_step10 {W0 W w':World} {a0:Addr} {u0:Value} {a1:Addr} {u1:Value} {a2:Addr} {u2:Value} {a3:Addr} {u3:Value} {a4:Addr} {u4:Value} {a5:Addr} {u5:Value} {a6:Addr} {u6:Value} {a7:Addr} {u7:Value} {a8:Addr} {u8:Value} {a9:Addr} {u9:Value} (h:Below W0.heap.size W0 W∧W.cell? a0=some u0∧W.cell? a1=some u1∧W.cell? a2=some u2∧W.cell? a3=some u3∧W.cell? a4=some u4∧W.cell? a5=some u5∧W.cell? a6=some u6∧W.cell? a7=some u7∧W.cell? a8=some u8∧W.cell? a9=some u9) (hb:Below W.heap.size W w'):Below W0.heap.size W0 w'∧w'.cell? a0=some u0∧w'.cell? a1=some u1∧w'.cell? a2=some u2∧w'.cell? a3=some u3∧w'.cell? a4=some u4∧w'.cell? a5=some u5∧w'.cell? a6=some u6∧w'.cell? a7=some u7∧w'.cell? a8=some u8∧w'.cell? a9=some u9:=by
 obtain ⟨h0,g0,g1,g2,g3,g4,g5,g6,g7,g8,g9⟩:=h
 exact ⟨below_step h0 hb,(hb.cell (cell_size g0)).trans g0,(hb.cell (cell_size g1)).trans g1,(hb.cell (cell_size g2)).trans g2,(hb.cell (cell_size g3)).trans g3,(hb.cell (cell_size g4)).trans g4,(hb.cell (cell_size g5)).trans g5,(hb.cell (cell_size g6)).trans g6,(hb.cell (cell_size g7)).trans g7,(hb.cell (cell_size g8)).trans g8,(hb.cell (cell_size g9)).trans g9⟩
theorem chk1_any (S:Sp) (x:St) (pv:Value) (p:Pt) (Bc Bm n p4 p1 p10:Nat) (v1 v2 v3 v4:Value) (f:Nat→Value) (ks:List (List UInt8 × List UInt8)) (w:World) (hc:Chk w Bc Bm n v1 v2 v3 v4 ks) (hsp:SpRd w v1 v2 v3 v4 f S) (hs:S.rs.length≤1000)
  (h4:Blk w p4 130 #[.pointer (some ⟨Bc,0,none⟩)]) (h1:Blk w p1 27 #[v1,v2,v3,v4]) (h10:Blk w p10 66 #[.string x.name,.int .i64 x.div,.int .i64 x.num,.int .i64 x.den,pv])
  (hd0:0≤x.div) (hd:x.div<S.ds.length) (hdv:∀ d∈S.ds,dvE d=0) (hrv:∀ r∈S.rs,rkE r=0) :
  Calls Tryz.prog 88 #[.agg #[.int .i64 p.rank,.int .i64 p.shift,.int .i64 p.lo,.int .i64 p.hi],.pointer (some ⟨p4,0,none⟩),.pointer (some ⟨p1,0,none⟩),.pointer (some ⟨p10,0,none⟩)] w fun e w'=>e = .returned (.int .i64 (ptE S x p))∧Below w.heap.size w w':=by
 have hb0:Below w.heap.size w (w.alloc (.cells #[.int .i64 p.rank,.int .i64 p.shift,.int .i64 p.lo,.int .i64 p.hi] 105)):=(Below.refl _ _).alloc (Nat.le_refl _) _
 have k0:Blk (w.alloc (.cells #[.int .i64 p.rank,.int .i64 p.shift,.int .i64 p.lo,.int .i64 p.hi] 105)) w.heap.size 105 #[.int .i64 p.rank,.int .i64 p.shift,.int .i64 p.lo,.int .i64 p.hi]:=Blk.new _ _ _
 have hc0:=hc.below hb0
 have hsp0:=hsp.later hb0
 have k4:=(h4.below hb0).cell 0
 have k1:=(h1.below hb0).cell 0
 have k10:=(h10.below hb0).cell 1
 have q0:=k0.cell 0
 have q1:=k0.cell 1
 have q2:=k0.cell 2
 have q3:=k0.cell 3
 obtain ⟨i,hi⟩:=Int.eq_ofNat_of_zero_le hd0
 have hil:i<S.ds.length:=by omega
 obtain ⟨b,o,c2,rfl,hlt,r0,r1,r2⟩:=hsp0.dAt i hil
 have hti:x.div.toNat=i:=by omega
 have CP:=fun W (hW:Below (w.alloc (.cells #[.int .i64 p.rank,.int .i64 p.shift,.int .i64 p.lo,.int .i64 p.hi] 105)).heap.size (w.alloc (.cells #[.int .i64 p.rank,.int .i64 p.shift,.int .i64 p.lo,.int .i64 p.hi] 105)) W) =>
  part_any S x S.ds[i] p Bc Bm n _ v2 v3 v4 f ks W (hc0.below hW) (hsp0.later hW) hs (by omega) (by simp only [hti]) (hdv _ (List.getElem_mem hil)) hrv
 have HC:=hid CP
 have hi1:(0:Int)≤(i:Int):=by omega
 have hi2:(i:Int)<(S.ds.length:Int):=by omega
 have hdr:Below (w.alloc (.cells #[.int .i64 p.rank,.int .i64 p.shift,.int .i64 p.lo,.int .i64 p.hi] 105)).heap.size (w.alloc (.cells #[.int .i64 p.rank,.int .i64 p.shift,.int .i64 p.lo,.int .i64 p.hi] 105)) (w.alloc (.cells #[.int .i64 p.rank,.int .i64 p.shift,.int .i64 p.lo,.int .i64 p.hi] 105)).drew:=(Below.refl _ _).drew
 rw [hi] at k10
 generalize S.ds[i]=d at *
 clear CP hti hi hd hd0 hdv hrv hsp hsp0 hc0 hc h4 h1 h10 k0
 go_enter Tryz.func88,Tryz.ntmps88
 go_wp2_with fail
 go_region_held3 (fun w'=>Below (w.alloc (.cells #[.int .i64 p.rank,.int .i64 p.shift,.int .i64 p.lo,.int .i64 p.hi] 105)).heap.size (w.alloc (.cells #[.int .i64 p.rank,.int .i64 p.shift,.int .i64 p.lo,.int .i64 p.hi] 105)) w'∧w'.cell? ⟨p4,0,none⟩=some (.pointer (some ⟨Bc,0,none⟩))∧w'.cell? ⟨p1,0,none⟩=some (.slice (some ⟨b,o,none⟩) S.ds.length c2)∧w'.cell? ⟨p10,1,none⟩=some (.int .i64 i)∧w'.cell? ⟨b,o+i * 3,none⟩=some (.string d.name)∧w'.cell? ⟨b,o+i * 3+1,none⟩=some (.int .i64 d.lo)∧w'.cell? ⟨b,o+i * 3+2,none⟩=some (.int .i64 d.hi)∧w'.cell? ⟨w.heap.size,0,none⟩=some (.int .i64 p.rank)∧w'.cell? ⟨w.heap.size,1,none⟩=some (.int .i64 p.shift)∧w'.cell? ⟨w.heap.size,2,none⟩=some (.int .i64 p.lo)∧w'.cell? ⟨w.heap.size,3,none⟩=some (.int .i64 p.hi)) (first | exact ⟨hdr,k4,k1,k10,r0,r1,r2,q0,q1,q2,q3⟩ | assumption) (first | (go_at_call 89;refine (HC.out _ (by first | exact And.left (by assumption) | exact hdr)).mono ?_;rintro e w2 ⟨rfl,hb2⟩;have hn:=held_step10 (by assumption) hb2;clear hb2))
 go_wp2
 go_ret
 exact ⟨rfl,below_step hb0 hn.1⟩
structure CkSt (w:World) (v1 v2 v3 v4:Value) (n:Nat) (ks:List (List UInt8 × List UInt8)) (W:World):Prop where
 spec:Blk W w.heap.size 27 #[v1,v2,v3,v4]
 res:Blk W (w.heap.size+1) 69 #[.int .i64 0,.int .i64 0,.int .i64 0]
 chk:Chk W (w.heap.size+3) (w.heap.size+2) n v1 v2 v3 v4 ks
 ptr:Blk W (w.heap.size+4) 130 #[.pointer (some ⟨w.heap.size+3,0,none⟩)]
 low:Below w.heap.size w W
structure CkWk (w:World) (v1 v2 v3 v4:Value) (W:World):Prop where
 spec:Blk W w.heap.size 27 #[v1,v2,v3,v4]
 res:Blk W (w.heap.size+1) 69 #[.int .i64 0,.int .i64 0,.int .i64 0]
 ptr:Blk W (w.heap.size+4) 130 #[.pointer (some ⟨w.heap.size+3,0,none⟩)]
 low:Below w.heap.size w W
theorem CkSt.below {w W W':World} {v1 v2 v3 v4:Value} {n:Nat} {ks:List (List UInt8 × List UInt8)} (h:CkSt w v1 v2 v3 v4 n ks W) (hb:Below W.heap.size W W'):CkSt w v1 v2 v3 v4 n ks W' :=
 ⟨h.spec.below hb,h.res.below hb,h.chk.below hb,h.ptr.below hb,below_step h.low hb⟩
theorem CkWk.below {w W W':World} {v1 v2 v3 v4:Value} (h:CkWk w v1 v2 v3 v4 W) (hb:Below W.heap.size W W'):CkWk w v1 v2 v3 v4 W' :=
 ⟨h.spec.below hb,h.res.below hb,h.ptr.below hb,below_step h.low hb⟩
theorem CkSt.weak {w W:World} {v1 v2 v3 v4:Value} {n:Nat} {ks:List (List UInt8 × List UInt8)} (h:CkSt w v1 v2 v3 v4 n ks W):CkWk w v1 v2 v3 v4 W:=⟨h.spec,h.res,h.ptr,h.low⟩
theorem CkWk.grown {w W W':World} {v1 v2 v3 v4:Value} (h:CkWk w v1 v2 v3 v4 W) (hg:W.grownBy W' (some (w.heap.size+2))):CkWk w v1 v2 v3 v4 W' :=
 ⟨h.spec.kept hg (by simp),h.res.kept hg (by simp),h.ptr.kept hg (by simp),h.low.grown hg h.low.size (fun k e=>by have:=Option.some.inj e;omega)⟩
theorem CkSt.ends {w W W':World} {v1 v2 v3 v4:Value} {n:Nat} {k nm:List UInt8} {ks:List (List UInt8 × List UInt8)} {E:Int} {e:Ending} (h:CkSt w v1 v2 v3 v4 n ks W) (hc:CkEnds (w.heap.size+3) (w.heap.size+2) n v1 v2 v3 v4 k nm ks E W e W') :
  e = .returned (.int .i64 E)∧CkWk w v1 v2 v3 v4 W'∧(E=0→CkSt w v1 v2 v3 v4 (n+1) ((k,nm) :: ks) W'):=by
 obtain ⟨h1,h2,h3⟩:=hc
 have hw:=h.weak.grown h2
 exact ⟨h1,hw,fun h0=>⟨hw.spec,hw.res,h3 h0,hw.ptr,hw.low⟩⟩
theorem ckD (S:Sp) (ok:SpOk S) (w:World) (v1 v2 v3 v4:Value) (f:Nat→Value) (hsp:SpRd w v1 v2 v3 v4 f S) (W:World) (h0:CkSt w v1 v2 v3 v4 0 [] W) :
  Calls Tryz.prog 83 #[v1,.func (.func 84) #[.pointer (some ⟨w.heap.size+3,0,none⟩)] #[]] W (FstEnds (errD S) S.ds.length (fun k W=>CkSt w v1 v2 v3 v4 k (ksD S k) W) (CkWk w v1 v2 v3 v4)):=by
 refine firstD_any S.ds.length ok.d v1 (errD S) (w.heap.size+3) _ _ W (fun k _ _ h hb=>h.below hb) (fun _ _ h hb=>h.below hb) (fun k _ h=>h.weak) hsp.forms.1 (fun k hk=>⟨S.ds[k],fun W hW=>⟨(hsp.later hW.low).dAt k hk,?_⟩⟩) h0
 have C:=division_any S.ds[k] (w.heap.size+3) (w.heap.size+2) k v1 v2 v3 v4 (ksD S k) W hW.chk (by have:=ok.d;omega) (ok.dn _ (List.getElem_mem hk))
 rw [seenD hk] at C
 refine C.mono fun e w' h=>?_
 have:=hW.ends h
 rwa [show ksD S (k+1)=(dvK,L S.ds[k].name) :: ksD S k from keysG_take gD S.ds k hk []]
theorem ckR (S:Sp) (ok:SpOk S) (w:World) (t:Tabs w) (v1 v2 v3 v4:Value) (f:Nat→Value) (hsp:SpRd w v1 v2 v3 v4 f S) (W:World) (h0:CkSt w v1 v2 v3 v4 S.ds.length (ksD S S.ds.length) W) :
  Calls Tryz.prog 85 #[v2,.func (.func 86) #[.pointer (some ⟨w.heap.size+3,0,none⟩)] #[]] W (FstEnds (errR S) S.rs.length (fun k W=>CkSt w v1 v2 v3 v4 (S.ds.length+k) (ksR S k) W) (CkWk w v1 v2 v3 v4)):=by
 refine firstR_any S.rs.length ok.r v2 (errR S) (w.heap.size+3) _ _ W (fun k _ _ h hb=>h.below hb) (fun _ _ h hb=>h.below hb) (fun k _ h=>h.weak) hsp.forms.2.1 (fun k hk=>⟨S.rs[k],fun W hW=>⟨(hsp.later hW.low).rAt k hk,?_⟩⟩) h0
 have C:=rank_any S.rs[k] (w.heap.size+3) (w.heap.size+2) (S.ds.length+k) v1 v2 v3 v4 (ksR S k) W (t.below hW.low) (t.lt (by omega)) hW.chk (by have:=ok.d;have:=ok.r;omega) (ok.rn _ (List.getElem_mem hk))
 rw [seenR hk] at C
 refine C.mono fun e w' h=>?_
 have:=hW.ends h
 rwa [show ksR S (k+1)=(rkK,L S.rs[k].name) :: ksR S k from keysG_take gR S.rs k hk _]
theorem ckC (S:Sp) (ok:SpOk S) (w:World) (v1 v2 v3 v4:Value) (f:Nat→Value) (hsp:SpRd w v1 v2 v3 v4 f S) (W:World) (h0:CkSt w v1 v2 v3 v4 (S.ds.length+S.rs.length+S.ss.length) (ksS S S.ss.length) W) :
  Calls Tryz.prog 91 #[v4,.func (.func 92) #[.pointer (some ⟨w.heap.size+3,0,none⟩)] #[]] W (FstEnds (errC S) S.cs.length (fun k W=>CkSt w v1 v2 v3 v4 (S.ds.length+S.rs.length+S.ss.length+k) (ksC S k) W) (CkWk w v1 v2 v3 v4)):=by
 refine firstC_any S.cs.length ok.c v4 (errC S) (w.heap.size+3) _ _ W (fun k _ _ h hb=>h.below hb) (fun _ _ h hb=>h.below hb) (fun k _ h=>h.weak) hsp.forms.2.2.2 (fun k hk=>⟨S.cs[k],fun W hW=>⟨(hsp.later hW.low).cAt k hk,?_⟩⟩) h0
 obtain ⟨a1,c1,e1⟩:=hsp.forms.1
 subst e1
 have C:=coupler_any S.cs[k] S (w.heap.size+3) (w.heap.size+2) (S.ds.length+S.rs.length+S.ss.length+k) a1 c1 v2 v3 v4 (ksC S k) W hW.chk (by have:=ok.d;have:=ok.r;have:=ok.s;have:=ok.c;omega) (ok.cn _ (List.getElem_mem hk)) ok.d
 rw [seenC hk] at C
 refine C.mono fun e w' h=>?_
 have:=hW.ends h
 rwa [show ksC S (k+1)=(cpK,L S.cs[k].name) :: ksC S k from keysG_take gC S.cs k hk _]
theorem ckP (S:Sp) (ok:SpOk S) (w:World) (v1 v2 v3 v4:Value) (f:Nat→Value) (hsp:SpRd w v1 v2 v3 v4 f S) (n i p10:Nat) (hi:i<S.ss.length) (ks:List (List UInt8 × List UInt8)) (W:World) (h0:CkSt w v1 v2 v3 v4 n ks W)
  (h10:Blk W p10 66 #[.string S.ss[i].name,.int .i64 S.ss[i].div,.int .i64 S.ss[i].num,.int .i64 S.ss[i].den,f i]) (he:errS S i=0) (hdv:∀ d∈S.ds,dvE d=0) (hrv:∀ r∈S.rs,rkE r=0) :
  Calls Tryz.prog 90 #[f i,.func (.func 88) #[] #[.pointer (some ⟨w.heap.size+4,0,none⟩),.pointer (some ⟨w.heap.size,0,none⟩),.pointer (some ⟨p10,0,none⟩)]] W
   (FstEnds (errP S S.ss[i]) S.ss[i].parts.length (fun _ W=>CkSt w v1 v2 v3 v4 n ks W∧Blk W p10 66 #[.string S.ss[i].name,.int .i64 S.ss[i].div,.int .i64 S.ss[i].num,.int .i64 S.ss[i].den,f i])
    (fun W=>CkSt w v1 v2 v3 v4 n ks W)):=by
 have hd:=errS_div hi he
 obtain ⟨a,c,ef⟩:=(hsp.p i hi).form
 refine firstP_any S.ss[i].parts.length (ok.sp _ (List.getElem_mem hi)) (f i) (errP S S.ss[i]) (w.heap.size+4) w.heap.size p10 _ _ W (fun k _ _ h hb=>⟨h.1.below hb,h.2.below hb⟩) (fun _ _ h hb=>h.below hb) (fun k _ h=>h.1) ⟨a,c,by simpa using ef⟩ (fun k hk=>⟨S.ss[i].parts[k],fun W hW=>⟨(hsp.later hW.1.low).pAt i hi k hk,?_⟩⟩) ⟨h0,h10⟩
 have C:=chk1_any S S.ss[i] (f i) S.ss[i].parts[k] (w.heap.size+3) (w.heap.size+2) n (w.heap.size+4) w.heap.size p10 v1 v2 v3 v4 f ks W hW.1.chk (hsp.later hW.1.low) ok.r hW.1.ptr hW.1.spec hW.2 hd.1 hd.2 hdv hrv
 rw [← errP_is hk] at C
 exact C.mono fun e w' h=>⟨h.1,hW.1.below h.2,fun _=>⟨hW.1.below h.2,hW.2.below h.2⟩⟩
def ckV (c:(Int × Int × Int) × Int):Value:=.tuple #[.agg #[.int .i64 c.1.1,.int .i64 c.1.2.1,.int .i64 c.1.2.2],.int .i64 c.2]
theorem check_toolong {S:Sp} (h:6<S.ds.length∨40<S.rs.length∨80<S.ss.length∨24<S.cs.length):checkP S=((0,0,0),3):=by unfold checkP;rw [if_pos h]
theorem Blk.three {W:World} {B:Nat} {t:TypeId} {a b c:Value} (h:Blk W B t #[a,b,c]):W.cell? ⟨B,0,none⟩=some a∧W.cell? ⟨B,1,none⟩=some b∧W.cell? ⟨B,2,none⟩=some c∧W.frozen? ⟨B,0,none⟩=false∧W.frozen? ⟨B,1,none⟩=false∧W.frozen? ⟨B,2,none⟩=false :=
 ⟨h.cell 0,h.cell 1,h.cell 2,h.frozen 0,h.frozen 1,h.frozen 2⟩
theorem set_three {W:World} {B:Nat} {t:TypeId} {u v x:Value} (h:Blk W B t #[u,v,x]) (a b c:Value):Blk (((W.setCell ⟨B,0,none⟩ a).setCell ⟨B,1,none⟩ b).setCell ⟨B,2,none⟩ c) B t #[a,b,c]:=((h.set 0 a).set 1 b).set 2 c
theorem below_three {w W:World} {B:Nat} (h:Below w.heap.size w W) (hB:w.heap.size≤B) (a b c:Value):Below w.heap.size w (((W.setCell ⟨B,0,none⟩ a).setCell ⟨B,1,none⟩ b).setCell ⟨B,2,none⟩ c) :=
 ((h.setCell (p:=⟨B,0,none⟩) hB _).setCell (p:=⟨B,1,none⟩) hB _).setCell (p:=⟨B,2,none⟩) hB _
theorem check_long (a1 a2 a3 a4:Option Addr) (c1 c2 c3 c4:Nat) (S:Sp) (w:World) (h:6<S.ds.length∨(S.ds.length≤6∧40<S.rs.length)∨(S.ds.length≤6∧S.rs.length≤40∧80<S.ss.length)∨(S.ds.length≤6∧S.rs.length≤40∧S.ss.length≤80∧24<S.cs.length)) :
  Calls Tryz.prog 40 #[.agg #[.slice a1 S.ds.length c1,.slice a2 S.rs.length c2,.slice a3 S.ss.length c3,.slice a4 S.cs.length c4]] w fun e w'=>e = .returned (ckV (checkP S))∧Below w.heap.size w w':=by
 have HL:=hid (check_toolong (S:=S) (by omega))
 have hb0:Below w.heap.size w ((w.alloc (.cells #[.slice a1 S.ds.length c1,.slice a2 S.rs.length c2,.slice a3 S.ss.length c3,.slice a4 S.cs.length c4] 27)).alloc (.cells #[.int .i64 0,.int .i64 0,.int .i64 0] 69)):=((Below.refl _ w).alloc (Nat.le_refl _) _).alloc (by simp) _
 rcases h with h | ⟨h1,h⟩ | ⟨h1,h2,h⟩ | ⟨h1,h2,h3,h⟩
 all_goals
  go_enter Tryz.func40,Tryz.ntmps40
  go_wp2
  refine bodyPost_ret (v:=.tuple #[.agg #[.int .i64 0,.int .i64 0,.int .i64 0],.int .i64 3]) (by simp [results,Tryz.results40,go_sem]) rfl ⟨by rw [HL.out];rfl,?_⟩
  exact hb0
def ckW (w:World) (v1 v2 v3 v4:Value):World:=((((w.alloc (.cells #[v1,v2,v3,v4] 27)).alloc (.cells #[.int .i64 0,.int .i64 0,.int .i64 0] 69)).alloc (.map #[] 0)).alloc (.cells #[v1,v2,v3,v4,.map (some (w.heap.size+2))] 133)).alloc (.cells #[.pointer (some ⟨w.heap.size+3,0,none⟩)] 130)
theorem ckW_st (w:World) (v1 v2 v3 v4:Value):CkSt w v1 v2 v3 v4 0 [] (ckW w v1 v2 v3 v4) where
 spec:=((((Blk.new w _ _).alloc _).alloc _).alloc _).alloc _
 res:=by
  have:=(((Blk.new (w.alloc (.cells #[v1,v2,v3,v4] 27)) 69 #[.int .i64 0,.int .i64 0,.int .i64 0]).alloc (.map #[] 0)).alloc (.cells #[v1,v2,v3,v4,.map (some (w.heap.size+2))] 133)).alloc (.cells #[.pointer (some ⟨w.heap.size+3,0,none⟩)] 130)
  rwa [World.size_alloc] at this
 chk:=by
  refine ⟨?_,?_,by omega⟩
  ·have:=(Blk.new (((w.alloc (.cells #[v1,v2,v3,v4] 27)).alloc (.cells #[.int .i64 0,.int .i64 0,.int .i64 0] 69)).alloc (.map #[] 0)) 133 #[v1,v2,v3,v4,.map (some (w.heap.size+2))]).alloc (.cells #[.pointer (some ⟨w.heap.size+3,0,none⟩)] 130)
   simp only [World.size_alloc] at this
   exact this
  ·have:=Seen.made Tryz.prog 9 4 ((w.alloc (.cells #[v1,v2,v3,v4] 27)).alloc (.cells #[.int .i64 0,.int .i64 0,.int .i64 0] 69))
   simp only [World.size_alloc] at this
   exact (this.kept (World.grownBy_alloc _ _ none) (by simp)).kept (World.grownBy_alloc _ _ none) (by simp)
 ptr:=by
  have:=Blk.new ((((w.alloc (.cells #[v1,v2,v3,v4] 27)).alloc (.cells #[.int .i64 0,.int .i64 0,.int .i64 0] 69)).alloc (.map #[] 0)).alloc (.cells #[v1,v2,v3,v4,.map (some (w.heap.size+2))] 133)) 130 #[.pointer (some ⟨w.heap.size+3,0,none⟩)]
  simp only [World.size_alloc] at this
  exact this
 low:=(((((Below.refl _ w).alloc (Nat.le_refl _) _).alloc (by simp) _).alloc (by simp;omega) _).alloc (by simp;omega) _).alloc (by simp;omega) _
theorem checkP_d {S:Sp} {i:Nat} (hl:¬ (6<S.ds.length∨40<S.rs.length∨80<S.ss.length∨24<S.cs.length)) (h:fst0 (errD S) S.ds.length=some i):checkP S=((1,(i:Int),0),errD S i):=by unfold checkP;rw [if_neg hl,h]
theorem checkP_r {S:Sp} {i:Nat} (hl:¬ (6<S.ds.length∨40<S.rs.length∨80<S.ss.length∨24<S.cs.length)) (h0:fst0 (errD S) S.ds.length=none) (h:fst0 (errR S) S.rs.length=some i):checkP S=((2,(i:Int),0),errR S i):=by unfold checkP;rw [if_neg hl,h0,h]
theorem checkP_s {S:Sp} {i:Nat} (hl:¬ (6<S.ds.length∨40<S.rs.length∨80<S.ss.length∨24<S.cs.length)) (h0:fst0 (errD S) S.ds.length=none) (h1:fst0 (errR S) S.rs.length=none) (hi:i<S.ss.length) (h2:(stopE S i).2≠0) (h3:∀ j,j<i→(stopE S j).2=0):checkP S=((3,(i:Int),(stopE S i).1),(stopE S i).2):=by
 unfold checkP
 rw [if_neg hl,h0,h1,fst0_some (f:=fun i=>(stopE S i).2) hi h2 h3]
theorem checkP_c {S:Sp} {i:Nat} (hl:¬ (6<S.ds.length∨40<S.rs.length∨80<S.ss.length∨24<S.cs.length)) (h0:fst0 (errD S) S.ds.length=none) (h1:fst0 (errR S) S.rs.length=none) (h2:∀ j,j<S.ss.length→(stopE S j).2=0) (h:fst0 (errC S) S.cs.length=some i):checkP S=((4,(i:Int),0),errC S i):=by
 unfold checkP
 rw [if_neg hl,h0,h1,fst0_none.2 h2,h]
theorem checkP_ok {S:Sp} (hl:¬ (6<S.ds.length∨40<S.rs.length∨80<S.ss.length∨24<S.cs.length)) (h0:fst0 (errD S) S.ds.length=none) (h1:fst0 (errR S) S.rs.length=none) (h2:∀ j,j<S.ss.length→(stopE S j).2=0) (h:fst0 (errC S) S.cs.length=none):checkP S=((0,0,0),0):=by
 unfold checkP
 rw [if_neg hl,h0,h1,fst0_none.2 h2,h]
theorem fstV_of {E:Nat→Int} {n i:Nat} (h:fst0 E n=some i):fstV E n = .tuple #[.int .i64 i,.int .i64 (E i)]:=by unfold fstV;rw [h]
theorem fstV_no {E:Nat→Int} {n:Nat} (h:fst0 E n=none):fstV E n = .tuple #[.int .i64 0,.int .i64 0]:=by unfold fstV;rw [h]
theorem nmE_zero {nm:ByteArray} {es:List ByteArray} {n:Int} (h:nmE nm es n=0):n=0:=by
 unfold nmE at h
 split at h
 ·cases h
 ·split at h
  ·cases h
  ·exact h
theorem all_dvE {S:Sp} (h:fst0 (errD S) S.ds.length=none):∀ d∈S.ds,dvE d=0:=by
 intro d hd
 obtain ⟨k,hk,rfl⟩:=List.mem_iff_getElem.1 hd
 have:=fst0_none.1 h k hk
 rw [errD_is hk] at this
 exact nmE_zero this
theorem all_rkE {S:Sp} (h:fst0 (errR S) S.rs.length=none):∀ r∈S.rs,rkE r=0:=by
 intro r hr
 obtain ⟨k,hk,rfl⟩:=List.mem_iff_getElem.1 hr
 have:=fst0_none.1 h k hk
 rw [errR_is hk] at this
 exact nmE_zero this
theorem check_early (a1 a2 a3 a4:Option Addr) (c1 c2 c3 c4:Nat) (S:Sp) (ok:SpOk S) (w:World) (t:Tabs w) (f:Nat→Value) (hsp:SpRd w (.slice a1 S.ds.length c1) (.slice a2 S.rs.length c2) (.slice a3 S.ss.length c3) (.slice a4 S.cs.length c4) f S)
  (l1:S.ds.length≤6) (l2:S.rs.length≤40) (l3:S.ss.length≤80) (l4:S.cs.length≤24) (hbad:fst0 (errD S) S.ds.length≠none∨fst0 (errR S) S.rs.length≠none) :
  Calls Tryz.prog 40 #[.agg #[.slice a1 S.ds.length c1,.slice a2 S.rs.length c2,.slice a3 S.ss.length c3,.slice a4 S.cs.length c4]] w fun e w'=>e = .returned (ckV (checkP S))∧Below w.heap.size w w':=by
 have hmm:=@run_makeMap Tryz.prog
 have hmf:∀ (fn:Fn) (first cap:Array Value) (w:World),(Instr.makeFunc fn first cap).run Tryz.prog w = .ok (.func fn first cap) w:=fun _ _ _ _=>rfl
 have h0:=ckW_st w (.slice a1 S.ds.length c1) (.slice a2 S.rs.length c2) (.slice a3 S.ss.length c3) (.slice a4 S.cs.length c4)
 have hl:¬ (6<S.ds.length∨40<S.rs.length∨80<S.ss.length∨24<S.cs.length):=by omega
 have HLL:=hid hl
 have CD:=hid (ckD S ok w _ _ _ _ f hsp _ h0)
 have HSP:=hid hsp
 have HOK:=hid ok
 unfold ckW at CD
 have g6:decide ((6:Int)<(S.ds.length:Int))=false:=by rw [decide_eq_false_iff_not];omega
 have g40:decide ((40:Int)<(S.rs.length:Int))=false:=by rw [decide_eq_false_iff_not];omega
 have g80:decide ((80:Int)<(S.ss.length:Int))=false:=by rw [decide_eq_false_iff_not];omega
 have g24:decide ((24:Int)<(S.cs.length:Int))=false:=by rw [decide_eq_false_iff_not];omega
 clear hl h0 hsp ok
 cases hD:fst0 (errD S) S.ds.length with
 | some i =>
  have HP:=hid (checkP_d HLL.out hD)
  have HV:=hid (fstV_of hD)
  obtain ⟨ei,hei⟩:∃ ei,ei=errD S i:=⟨_,rfl⟩
  have b1:(ei==0)=false:=by rw [hei];exact beq_eq_false_iff_ne.2 (fst0_is hD).2.1
  have b2:=hid (fst0_is hD).2.1
  rw [← hei] at HP HV b2
  clear hD hei
  go_enter Tryz.func40,Tryz.ntmps40
  go_wp2_with fail
  refine (CD.out).mono ?_
  rintro e w1 ⟨rfl,hw1,_⟩
  rw [HV.out]
  obtain ⟨x0,x1,x2,f0,f1,f2⟩:=hw1.res.three
  have HLW:=hw1.low
  go_wp2
  have yy:=set_three hw1.res (.int .i64 1) (.int .i64 i) (.int .i64 0)
  obtain ⟨y0,y1,y2,_,_,_⟩:=yy.three
  refine bodyPost_ret (v:=.tuple #[.agg #[.int .i64 1,.int .i64 i,.int .i64 0],.int .i64 ei]) (by simp [results,Tryz.results40,go_sem,y0,y1,y2]) rfl ⟨by rw [HP.out];rfl,?_⟩
  exact below_three HLW (by omega) _ _ _
 | none =>
  have HD:=hid hD
  have HV:=hid (fstV_no hD)
  clear hD
  cases hR:fst0 (errR S) S.rs.length with
  | some i =>
   have HP:=hid (checkP_r HLL.out HD.out hR)
   have HV2:=hid (fstV_of hR)
   obtain ⟨ei,hei⟩:∃ ei,ei=errR S i:=⟨_,rfl⟩
   have b1:(ei==0)=false:=by rw [hei];exact beq_eq_false_iff_ne.2 (fst0_is hR).2.1
   have b2:=hid (fst0_is hR).2.1
   rw [← hei] at HP HV2 b2
   clear hR hei
   go_enter Tryz.func40,Tryz.ntmps40
   go_wp2_with fail
   refine (CD.out).mono ?_
   rintro e w1 ⟨rfl,hw1,hi1⟩
   rw [HV.out]
   have st1:=hi1 HD.out
   have CR:=hid (ckR S HOK.out w t _ _ _ _ f HSP.out w1 st1)
   have s0:=st1.spec.four
   have q0:=st1.ptr.cell 0
   clear hi1
   obtain ⟨s0,s1,s2,s3⟩:=s0
   go_wp2_with fail
   refine (CR.out).mono ?_
   rintro e w2 ⟨rfl,hw2,_⟩
   rw [HV2.out]
   obtain ⟨x0,x1,x2,f0,f1,f2⟩:=hw2.res.three
   have HLW:=hw2.low
   go_wp2
   have yy:=set_three hw2.res (.int .i64 2) (.int .i64 i) (.int .i64 0)
   obtain ⟨y0,y1,y2,_,_,_⟩:=yy.three
   refine bodyPost_ret (v:=.tuple #[.agg #[.int .i64 2,.int .i64 i,.int .i64 0],.int .i64 ei]) (by simp [results,Tryz.results40,go_sem,y0,y1,y2]) rfl ⟨by rw [HP.out];rfl,?_⟩
   exact below_three HLW (by omega) _ _ _
  | none=>exact absurd hR (by rcases hbad with h | h;exact absurd HD.out h;exact h)
theorem check_late (a1 a2 a3 a4:Option Addr) (c1 c2 c3 c4:Nat) (S:Sp) (ok:SpOk S) (w:World) (t:Tabs w) (f:Nat→Value) (hsp:SpRd w (.slice a1 S.ds.length c1) (.slice a2 S.rs.length c2) (.slice a3 S.ss.length c3) (.slice a4 S.cs.length c4) f S)
  (l1:S.ds.length≤6) (l2:S.rs.length≤40) (l3:S.ss.length≤80) (l4:S.cs.length≤24) (hD:fst0 (errD S) S.ds.length=none) (hR:fst0 (errR S) S.rs.length=none) :
  Calls Tryz.prog 40 #[.agg #[.slice a1 S.ds.length c1,.slice a2 S.rs.length c2,.slice a3 S.ss.length c3,.slice a4 S.cs.length c4]] w fun e w'=>e = .returned (ckV (checkP S))∧Below w.heap.size w w':=by
 have hmm:=@run_makeMap Tryz.prog
 have hmf:∀ (fn:Fn) (first cap:Array Value) (w:World),(Instr.makeFunc fn first cap).run Tryz.prog w = .ok (.func fn first cap) w:=fun _ _ _ _=>rfl
 have h0:=ckW_st w (.slice a1 S.ds.length c1) (.slice a2 S.rs.length c2) (.slice a3 S.ss.length c3) (.slice a4 S.cs.length c4)
 have hl:¬ (6<S.ds.length∨40<S.rs.length∨80<S.ss.length∨24<S.cs.length):=by omega
 have HLL:=hid hl
 have CD:=hid (ckD S ok w _ _ _ _ f hsp _ h0)
 have HSP:=hid hsp
 have HOK:=hid ok
 unfold ckW at CD
 have g6:decide ((6:Int)<(S.ds.length:Int))=false:=by rw [decide_eq_false_iff_not];omega
 have g40:decide ((40:Int)<(S.rs.length:Int))=false:=by rw [decide_eq_false_iff_not];omega
 have g80:decide ((80:Int)<(S.ss.length:Int))=false:=by rw [decide_eq_false_iff_not];omega
 have g24:decide ((24:Int)<(S.cs.length:Int))=false:=by rw [decide_eq_false_iff_not];omega
 have HD:=hid hD
 have HV:=hid (fstV_no hD)
 clear hl h0 hsp ok hD
 have HR:=hid hR
 have HV2:=hid (fstV_no hR)
 have HDV:=hid (all_dvE HD.out)
 have HRV:=hid (all_rkE hR)
 clear hR
 go_enter Tryz.func40,Tryz.ntmps40
 go_wp2_with fail
 refine (CD.out).mono ?_
 rintro e w1 ⟨rfl,hw1,hi1⟩
 rw [HV.out]
 have st1:=hi1 HD.out
 have CR:=hid (ckR S HOK.out w t _ _ _ _ f HSP.out w1 st1)
 obtain ⟨s0,s1,s2,s3⟩:=st1.spec.four
 have q0:=st1.ptr.cell 0
 clear hi1
 go_wp2_with fail
 refine (CR.out).mono ?_
 rintro e w2 ⟨rfl,hw2,hi2⟩
 rw [HV2.out]
 have st2:=hi2 HR.out
 obtain ⟨s0,s1,s2,s3⟩:=st2.spec.four
 have q0:=st2.ptr.cell 0
 have HS2:=hid st2
 clear hi2 st1 hw1 hw2 st2
 go_wp2
 go_loopw [73] (fun i wr=>∃ k:Nat,k≤S.ss.length∧i = .int .i64 k∧Hid (∀ j,j<k→(stopE S j).2=0)∧Hid (∀ j,j<k→errS S j=0)∧Hid (CkSt w (.slice a1 S.ds.length c1) (.slice a2 S.rs.length c2) (.slice a3 S.ss.length c3) (.slice a4 S.cs.length c4) (S.ds.length+S.rs.length+k) (ksS S k) wr)) (fun i _=>S.ss.length-(intOf i).toNat)
 case atStart=>exact ⟨0,Nat.zero_le _,rfl,hid (fun j h=>absurd h (Nat.not_lt_zero j)),hid (fun j h=>absurd h (Nat.not_lt_zero j)),HS2⟩
 case round =>
  obtain ⟨k,hk,rfl,hE,hE2,hst⟩:=hrel
  obtain ⟨s0,s1,s2,s3⟩:=hst.out.spec.four
  have q0:=hst.out.ptr.cell 0
  have hsz:=hst.out.low.size
  have hlt5:=hst.out.ptr.lt
  by_cases hlt:k<S.ss.length
  ·obtain ⟨b,o,c',hvv,hbl,r0,r1,r2,r3,r4⟩:=(HSP.out.later hst.out.low).sAt k hlt
   simp only [Value.slice.injEq] at hvv
   obtain ⟨rfl,_,rfl⟩:=hvv
   obtain ⟨pa,pc,hpf⟩:=(HSP.out.p k hlt).form
   rw [List.length_map] at hpf
   rw [hpf] at r4
   have HPF:=hid hpf
   have hi1:(0:Int)≤(k:Int):=Int.natCast_nonneg _
   have hi2:(k:Int)<(S.ss.length:Int):=by omega
   have hb0:Below wr.heap.size wr (wr.alloc (.cells #[.string S.ss[k].name,.int .i64 S.ss[k].div,.int .i64 S.ss[k].num,.int .i64 S.ss[k].den,.slice pa S.ss[k].parts.length pc] 66)):=(Below.refl _ _).alloc (Nat.le_refl _) _
   have st0:=hst.out.below hb0
   have k10:Blk (wr.alloc (.cells #[.string S.ss[k].name,.int .i64 S.ss[k].div,.int .i64 S.ss[k].num,.int .i64 S.ss[k].den,.slice pa S.ss[k].parts.length pc] 66)) wr.heap.size 66 #[.string S.ss[k].name,.int .i64 S.ss[k].div,.int .i64 S.ss[k].num,.int .i64 S.ss[k].den,.slice pa S.ss[k].parts.length pc]:=Blk.new _ _ _
   have CS:=stop_any S.ss[k] pa pc S.ds.length (w.heap.size+3) (w.heap.size+2) (S.ds.length+S.rs.length+k) a1 c1 _ _ _ (ksS S k) _ (t.below st0.low) (t.lt (by omega)) st0.chk (by omega) (HOK.out.sn _ (List.getElem_mem hlt)) (by omega) (HOK.out.sp _ (List.getElem_mem hlt))
   rw [seenS hlt l1 hE2.out] at CS
   have CS2:=CS.mono fun e w' h=>(⟨(st0.ends h).1,(st0.ends h).2.1,(st0.ends h).2.2,k10.kept h.2.1 (by intro e;have:=Option.some.inj e;omega)⟩:_∧_∧_∧_)
   have HCS:=hid CS2
   have HW0:=hid (show w.heap.size+2<wr.heap.size by omega)
   clear CS CS2 hpf
   obtain ⟨es,hes⟩:∃ es,es=errS S k:=⟨_,rfl⟩
   rw [← hes] at HCS
   have HES:=hid hes
   clear hes
   by_cases hz:es=0
   ·subst hz
    have H0:=hid HES.out.symm
    cases hP:fst0 (errP S S.ss[k]) S.ss[k].parts.length with
    | some j =>
     obtain ⟨ep,hep⟩:∃ ep,ep=errP S S.ss[k] j:=⟨_,rfl⟩
     have hne:=(fst0_is hP).2.1
     have hjl:=(fst0_is hP).1
     have hpl:=HOK.out.sp _ (List.getElem_mem hlt)
     have hsE:=stopE_part hlt H0.out hP
     rw [← hep] at hsE hne
     have HP:=hid (show checkP S=((3,(k:Int),(j:Int)+1),ep) by
      have:=checkP_s HLL.out HD.out HR.out hlt (by rw [hsE];exact hne) hE.out
      rw [hsE] at this
      exact this)
     have HV3:=hid (show fstV (errP S S.ss[k]) S.ss[k].parts.length = .tuple #[.int .i64 j,.int .i64 ep] by rw [hep];exact fstV_of hP)
     have b3:(ep==0)=false:=beq_eq_false_iff_ne.2 hne
     have HNE:=hid hne
     have hjb:(j:Int)≤1000:=by omega
     clear hP hep hne hsE
     go_wp2_with fail
     refine (HCS.out).mono ?_
     rintro e w3 ⟨rfl,hw3,hi3,k3⟩
     have st3:=hi3 (by simp)
     clear hi3
     have CPP:=ckP S HOK.out w _ _ _ _ f HSP.out (S.ds.length+S.rs.length+k+1) k wr.heap.size hlt _ w3 st3 (by rw [HPF.out];exact k3) H0.out HDV.out HRV.out
     rw [HPF.out] at CPP
     have HCP:=hid CPP
     clear CPP
     obtain ⟨u0,u1,u2,u3⟩:=st3.spec.four
     have q3:=st3.ptr.cell 0
     have m0:=k3.cell 0
     have m1:=k3.cell 1
     have m2:=k3.cell 2
     have m3:=k3.cell 3
     have m4:=k3.cell 4
     go_wp2_with fail
     refine (HCP.out).mono ?_
     rintro e w4 ⟨rfl,st4,_⟩
     rw [HV3.out]
     obtain ⟨x0,x1,x2,f0,f1,f2⟩:=st4.res.three
     have HLW:=st4.low
     have blk4:=st4.res
     have HST4:=hid st4
     clear st4 hw3 HCP
     go_wp2
     have yy:=set_three blk4 (.int .i64 3) (.int .i64 k) (.int .i64 ((j:Int)+1))
     obtain ⟨y0,y1,y2,_,_,_⟩:=yy.three
     refine bodyPost_ret (v:=.tuple #[.agg #[.int .i64 3,.int .i64 k,.int .i64 ((j:Int)+1)],.int .i64 ep]) (by simp [results,Tryz.results40,go_sem,y0,y1,y2]) rfl ⟨by rw [HP.out];rfl,?_⟩
     exact below_three HLW (by omega) _ _ _
    | none =>
     have HV3:=hid (fstV_no hP)
     have HPN:=hid hP
     have HSE:=hid (stopE_good hlt H0.out hP)
     clear hP
     go_wp2_with fail
     refine (HCS.out).mono ?_
     rintro e w3 ⟨rfl,hw3,hi3,k3⟩
     have st3:=hi3 (by simp)
     clear hi3
     have CPP:=ckP S HOK.out w _ _ _ _ f HSP.out (S.ds.length+S.rs.length+k+1) k wr.heap.size hlt _ w3 st3 (by rw [HPF.out];exact k3) H0.out HDV.out HRV.out
     rw [HPF.out] at CPP
     have HCP:=hid CPP
     clear CPP
     obtain ⟨u0,u1,u2,u3⟩:=st3.spec.four
     have q3:=st3.ptr.cell 0
     have m0:=k3.cell 0
     have m1:=k3.cell 1
     have m2:=k3.cell 2
     have m3:=k3.cell 3
     have m4:=k3.cell 4
     go_wp2_with fail
     refine (HCP.out).mono ?_
     rintro e w4 ⟨rfl,_,hi4⟩
     rw [HV3.out]
     have HST4:=hid (hi4 HPN.out).1
     clear hi4 hw3 HCP
     go_wp2
     go_roundw
     case rel=>exact ⟨k+1,by omega,by go_num,hid (fun j hj=>by rcases Nat.lt_succ_iff_lt_or_eq.1 hj with h | h;exact hE.out j h;rw [h,HSE.out]),hid (fun j hj=>by rcases Nat.lt_succ_iff_lt_or_eq.1 hj with h | h;exact hE2.out j h;rw [h];exact H0.out),hid (by rw [show ksS S (k+1)=(stK S.ss[k].div,L S.ss[k].name) :: ksS S k from keysG_take gS S.ss k hlt _];exact HST4.out)⟩
     case measure=>simp [intOf];omega
   ·have b3:(es==0)=false:=beq_eq_false_iff_ne.2 hz
    have HP:=hid (show checkP S=((3,(k:Int),0),es) by
     have hb:=stopE_bad hlt (by rw [← HES.out];exact hz)
     have:=checkP_s HLL.out HD.out HR.out hlt (by rw [hb,← HES.out];exact hz) hE.out
     rw [hb,← HES.out] at this
     exact this)
    have HZ:=hid hz
    clear hz
    go_wp2_with fail
    refine (HCS.out).mono ?_
    rintro e w3 ⟨rfl,hw3,_,k3⟩
    obtain ⟨x0,x1,x2,f0,f1,f2⟩:=hw3.res.three
    have HLW:=hw3.low
    have blk4:=hw3.res
    clear hw3
    go_wp2
    have yy:=set_three blk4 (.int .i64 3) (.int .i64 k) (.int .i64 0)
    obtain ⟨y0,y1,y2,_,_,_⟩:=yy.three
    refine bodyPost_ret (v:=.tuple #[.agg #[.int .i64 3,.int .i64 k,.int .i64 0],.int .i64 es]) (by simp [results,Tryz.results40,go_sem,y0,y1,y2]) rfl ⟨by rw [HP.out];rfl,?_⟩
    exact below_three HLW (by omega) _ _ _
  ·have hke:k=S.ss.length:=by omega
   have HKE:=hid hke
   have HST:=hid (show CkSt w (.slice a1 S.ds.length c1) (.slice a2 S.rs.length c2) (.slice a3 S.ss.length c3) (.slice a4 S.cs.length c4) (S.ds.length+S.rs.length+S.ss.length) (ksS S S.ss.length) wr by have:=hst.out;rwa [hke] at this)
   have HEA:=hid (show ∀ j,j<S.ss.length→(stopE S j).2=0 by have:=hE.out;rwa [hke] at this)
   clear hke
   have CC:=hid (ckC S HOK.out w _ _ _ _ f HSP.out wr HST.out)
   cases hC:fst0 (errC S) S.cs.length with
   | some i =>
    have HP:=hid (checkP_c HLL.out HD.out HR.out HEA.out hC)
    have HV3:=hid (fstV_of hC)
    obtain ⟨ei,hei⟩:∃ ei,ei=errC S i:=⟨_,rfl⟩
    have b1:(ei==0)=false:=by rw [hei];exact beq_eq_false_iff_ne.2 (fst0_is hC).2.1
    have b2:=hid (fst0_is hC).2.1
    rw [← hei] at HP HV3 b2
    clear hC hei
    go_wp2_with fail
    refine (CC.out).mono ?_
    rintro e w4 ⟨rfl,hw4,_⟩
    rw [HV3.out]
    obtain ⟨x0,x1,x2,f0,f1,f2⟩:=hw4.res.three
    have HLW:=hw4.low
    have blk4:=hw4.res
    clear hw4
    go_wp2
    have yy:=set_three blk4 (.int .i64 4) (.int .i64 i) (.int .i64 0)
    obtain ⟨y0,y1,y2,_,_,_⟩:=yy.three
    refine bodyPost_ret (v:=.tuple #[.agg #[.int .i64 4,.int .i64 i,.int .i64 0],.int .i64 ei]) (by simp [results,Tryz.results40,go_sem,y0,y1,y2]) rfl ⟨by rw [HP.out];rfl,?_⟩
    exact below_three HLW (by omega) _ _ _
   | none =>
    have HP:=hid (checkP_ok HLL.out HD.out HR.out HEA.out hC)
    have HV3:=hid (fstV_no hC)
    clear hC
    go_wp2_with fail
    refine (CC.out).mono ?_
    rintro e w4 ⟨rfl,hw4,_⟩
    rw [HV3.out]
    obtain ⟨x0,x1,x2,f0,f1,f2⟩:=hw4.res.three
    have HLW:=hw4.low
    have blk4:=hw4.res
    clear hw4
    go_wp2
    have yy:=set_three blk4 (.int .i64 0) (.int .i64 0) (.int .i64 0)
    obtain ⟨y0,y1,y2,_,_,_⟩:=yy.three
    refine bodyPost_ret (v:=.tuple #[.agg #[.int .i64 0,.int .i64 0,.int .i64 0],.int .i64 0]) (by simp [results,Tryz.results40,go_sem,y0,y1,y2]) rfl ⟨by rw [HP.out];rfl,?_⟩
    exact below_three HLW (by omega) _ _ _
theorem check_wk (v1 v2 v3 v4:Value) (S:Sp) (ok:SpWk S) (w:World) (t:Tabs w) (f:Nat→Value) (hsp:SpRd w v1 v2 v3 v4 f S) :
  Calls Tryz.prog 40 #[.agg #[v1,v2,v3,v4]] w fun e w'=>e = .returned (ckV (checkP S))∧Below w.heap.size w w':=by
 obtain ⟨⟨a1,c1,rfl⟩,⟨a2,c2,rfl⟩,⟨a3,c3,rfl⟩,⟨a4,c4,rfl⟩⟩:=hsp.forms
 by_cases h:S.ds.length≤6∧S.rs.length≤40∧S.ss.length≤80∧S.cs.length≤24
 ·obtain ⟨l1,l2,l3,l4⟩:=h
  have ok:=ok.ok l1 l2 l3 l4
  by_cases hD:fst0 (errD S) S.ds.length=none
  ·by_cases hR:fst0 (errR S) S.rs.length=none
   ·exact check_late a1 a2 a3 a4 c1 c2 c3 c4 S ok w t f hsp l1 l2 l3 l4 hD hR
   ·exact check_early a1 a2 a3 a4 c1 c2 c3 c4 S ok w t f hsp l1 l2 l3 l4 (.inr hR)
  ·exact check_early a1 a2 a3 a4 c1 c2 c3 c4 S ok w t f hsp l1 l2 l3 l4 (.inl hD)
 ·exact check_long a1 a2 a3 a4 c1 c2 c3 c4 S w (by omega)
end Go.Proofs.YteflhbfgpknabaaGreatDoor
