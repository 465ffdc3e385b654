/-
  A part of the proof: W1r,W20.
-/
import Derived.Test.YteflhbfgpknabaaGreatDoorL02
set_option maxRecDepth 100000
set_option maxHeartbeats 1600000
namespace Go.Proofs.YteflhbfgpknabaaGreatDoor
open Go.Lib (hid)
open Go.RowKit
theorem rdigit_any (c:Int) (w:World) :
    Calls Tryz.prog 129 #[.int .u8 c] w fun e w'=>e = .returned (.bool (digB c))∧w=w':=by
  go_enter Tryz.func129,Tryz.ntmps129
  go_wp2
  all_goals go_ret
  all_goals (refine ⟨ret_bool ?_,rfl⟩;simp [digB, *];try omega)
theorem rletter_any (c:Int) (w:World) :
    Calls Tryz.prog 128 #[.int .u8 c] w fun e w'=>e = .returned (.bool (letB c))∧w=w':=by
  go_enter Tryz.func128,Tryz.ntmps128
  go_wp2
  all_goals go_ret
  all_goals (refine ⟨ret_bool ?_,rfl⟩;simp [letB, *];try omega)
theorem rname_any (s:ByteArray) (w:World) (hs:s.size≤maxLen) :
    Calls Tryz.prog 103 #[.string s] w fun e w'=>e = .returned (.bool (nameB (L s)))∧w=w':=by
  unfold maxLen at hs
  by_cases h0:s.size<1
  · have he:=hid (name_empty h0)
    go_enter Tryz.func103,Tryz.ntmps103
    go_wp2
    go_ret
    exact ⟨ret_bool he.out.symm,rfl⟩
  by_cases h16:16<s.size
  · have he:=hid (name_long h16)
    go_enter Tryz.func103,Tryz.ntmps103
    go_wp2
    go_ret
    exact ⟨ret_bool he.out.symm,rfl⟩
  cases hf:letB (s[0].toNat:Int)
  · have he:=hid (name_bad (s:=s) (k:=0) (by omega) (.inr ⟨rfl,hf⟩))
    go_enter Tryz.func103,Tryz.ntmps103
    go_wp2_with (go_at_call 128;refine (rletter_any _ _).mono ?_;rintro e w' ⟨rfl,rfl⟩)
    go_ret
    exact ⟨ret_bool he.out.symm,rfl⟩
  · go_enter Tryz.func103,Tryz.ntmps103
    go_wp2_with (go_at_call 128;refine (rletter_any _ _).mono ?_;rintro e w' ⟨rfl,rfl⟩)
    have hF:=hid hf
    clear hf
    go_loop [3] (fun i=>∃ k:Nat,k≤s.size∧i = .int .i64 k∧nameTo s k) (fun i=>s.size-(intOf i).toNat)
    case atStart=>exact ⟨0,Nat.zero_le _,rfl,nameTo_zero s⟩
    case round =>
      obtain ⟨k,hk,rfl,hto⟩:=hrel
      by_cases hlt:k<s.size
      · have hz:k=0→letB (s[k].toNat:Int)=true:=by rintro rfl;exact hF.out
        have HZ:=hid hz
        clear hz
        go_wp2_with (first | (go_at_call 128;refine (rletter_any _ _).mono ?_;rintro e w' ⟨rfl,rfl⟩) | (go_at_call 129;refine (rdigit_any _ _).mono ?_;rintro e w' ⟨rfl,rfl⟩))
        all_goals first
          | (go_ret;exact ⟨ret_bool (by rw [name_bad hlt (by simp [wrdU,wrdB, *] <;> simp_all)]),rfl⟩)
          | (go_round
             case rel=>exact ⟨k+1,by omega,by go_num,nameTo_succ hto hlt (by simp [wrdU,wrdB, *] <;> simp_all) HZ.out⟩
             case measure=>simp [intOf];omega)
      · have he:=hid (name_end hto (by omega))
        go_wp2
        all_goals (go_ret;exact ⟨ret_bool (by rw [he.out,Bool.eq_iff_iff];simp <;> omega),rfl⟩)
theorem not_common {a b k:Nat} (hb:0<b) (hk:b<k) (h:∀ j,2≤j→j<k→¬ (a % j=0∧b % j=0)):Nat.gcd a b=1:=by
 have hg:0<Nat.gcd a b:=Nat.gcd_pos_of_pos_right _ hb
 have hle:Nat.gcd a b≤b:=Nat.le_of_dvd hb (Nat.gcd_dvd_right a b)
 by_cases h2:2≤Nat.gcd a b
 ·exact absurd ⟨Nat.mod_eq_zero_of_dvd (Nat.gcd_dvd_left a b),Nat.mod_eq_zero_of_dvd (Nat.gcd_dvd_right a b)⟩ (h _ h2 (by omega))
 ·omega
theorem is_common {a b k:Nat} (hk:2≤k) (h1:a % k=0) (h2:b % k=0):Nat.gcd a b≠1:=by
 intro e
 have:=Nat.dvd_gcd (Nat.dvd_of_mod_eq_zero h1) (Nat.dvd_of_mod_eq_zero h2)
 rw [e] at this
 have:=Nat.le_of_dvd (by omega) this
 omega
theorem common_any (a b:Nat) (w:World) (hb:b≤1000000) (hb0:0<b) :
  Calls Tryz.prog 130 #[.int .i64 a,.int .i64 b] w fun e w'=>e = .returned (.bool (!((Nat.gcd a b:Int)==1)))∧Below w.heap.size w w':=by
 go_enter Tryz.func130,Tryz.ntmps130
 go_wp2
 go_loopw [5] (fun i wr=>∃ k:Nat,2≤k∧k≤b+2∧i = .int .i64 k∧Hid (∀ j,2≤j→j<k→¬ (a % j=0∧b % j=0))∧Below w.heap.size w wr) (fun i _=>b+2-(intOf i).toNat)
 case atStart=>exact ⟨2,Nat.le_refl _,by omega,rfl,hid (fun j h1 h2=>absurd h2 (by omega)),Below.refl _ _⟩
 case round =>
  obtain ⟨k,hk2,hk,rfl,hn,hB⟩:=hrel
  by_cases hlt:k≤b
  ·have hk1:(1:Int)≤(k:Int):=by omega
   have hk0:¬ (k:Int)=0:=by omega
   have e1:(a:Int).tmod (k:Int)=((a % k:Nat):Int):=rfl
   have e2:(b:Int).tmod (k:Int)=((b % k:Nat):Int):=rfl
   by_cases hc:a % k=0∧b % k=0
   ·have HN:=hid (is_common hk2 hc.1 hc.2)
    rw [hc.1] at e1
    rw [hc.2] at e2
    clear hc
    go_wp2
    all_goals go_ret
    all_goals (refine ⟨ret_bool ?_,by first | exact hB | exact below_drewN hB _⟩;have:=HN.out;rw [eq_comm,Bool.not_eq_true',beq_eq_false_iff_ne];omega)
   ·have HN:Hid (∀ j,2≤j→j<k+1→¬ (a % j=0∧b % j=0)):=fun j h1 h2=>by
     by_cases e:j=k
     ·subst e;exact hc
     ·exact hn.out j h1 (by omega)
    have hc2:¬ ((a % k:Nat):Int)=0∨((a % k:Nat):Int)=0∧¬ ((b % k:Nat):Int)=0:=by omega
    clear hc
    generalize a % k=r1 at e1 hc2
    generalize b % k=r2 at e2 hc2
    rcases hc2 with hc2 | ⟨hc1,hc2⟩
    all_goals
     go_wp2
     go_roundw
     case rel=>exact ⟨k+1,by omega,by omega,by go_num,HN,by first | exact hB | exact below_drewN hB _⟩
     case measure=>simp [intOf];omega
  ·have HN:=hid (not_common hb0 (by omega) hn.out)
   go_wp2
   go_ret
   exact ⟨ret_bool (by rw [HN.out];rfl),hB⟩
theorem rvalid_no (n d:Int) (w:World) (h:d<1∨(1≤d∧15<d)∨(1≤d∧d≤15∧n<1)∨(1≤d∧d≤15∧1≤n∧64 * d<n)) :
  Calls Tryz.prog 105 #[.agg #[.int .i64 n,.int .i64 d]] w fun e w'=>e = .returned (.bool false)∧Below w.heap.size w w':=by
 rcases h with h | ⟨h1,h⟩ | ⟨h1,h2,h⟩ | ⟨h1,h2,h3,h⟩
 all_goals
  go_enter Tryz.func105,Tryz.ntmps105
  go_wp2
  go_ret
  exact ⟨rfl,(Below.refl _ _).alloc (Nat.le_refl _) _⟩
theorem rvalid_gcd (n d:Nat) (w:World) (h1:1≤d) (h2:d≤15) (h3:1≤n) (h4:n≤64 * d) :
  Calls Tryz.prog 105 #[.agg #[.int .i64 n,.int .i64 d]] w fun e w'=>e = .returned (.bool ((Nat.gcd n d:Int)==1))∧Below w.heap.size w w':=by
 have g1:(1:Int)≤(d:Int):=by omega
 have g2:(d:Int)≤(15:Int):=by omega
 have g3:(1:Int)≤(n:Int):=by omega
 have g4:(n:Int)≤64 * (d:Int):=by omega
 have hd0:0<d:=by omega
 have m2:d≤1000000:=by omega
 go_enter Tryz.func105,Tryz.ntmps105
 go_wp2_with (go_at_call 130;refine (common_any n d _ m2 hd0).mono ?_;rintro e w' ⟨rfl,hb⟩)
 go_ret
 exact ⟨by simp,((Below.refl _ _).alloc (Nat.le_refl _) _).trans (hb.mono (by simp))⟩
theorem rvalid_any (n d:Int) (w:World) :
  Calls Tryz.prog 105 #[.agg #[.int .i64 n,.int .i64 d]] w fun e w'=>e = .returned (.bool (decide (ValidF n d)))∧Below w.heap.size w w':=by
 by_cases h:1≤d∧d≤15∧1≤n∧n≤64 * d
 ·obtain ⟨h1,h2,h3,h4⟩:=h
  obtain ⟨a,rfl⟩:=Int.eq_ofNat_of_zero_le (show 0≤n by omega)
  obtain ⟨b,rfl⟩:=Int.eq_ofNat_of_zero_le (show 0≤d by omega)
  refine (rvalid_gcd a b w (by omega) (by omega) (by omega) (by omega)).mono ?_
  rintro e w' ⟨rfl,hb⟩
  refine ⟨ret_bool ?_,hb⟩
  have hg:Int.gcd (a:Int) (b:Int)=Nat.gcd a b:=rfl
  rw [Bool.eq_iff_iff,decide_eq_true_eq,beq_iff_eq,ValidF,hg]
  omega
 ·refine (rvalid_no n d w (by omega)).mono ?_
  rintro e w' ⟨rfl,hb⟩
  exact ⟨ret_bool (by rw [eq_comm,decide_eq_false_iff_not];rintro ⟨a,b,c,e,_⟩;exact h ⟨a,b,c,e⟩),hb⟩
end Go.Proofs.YteflhbfgpknabaaGreatDoor
