/-
  A part of the proof: AH2.
-/
import Derived.Test.YthhfmppealmblaaGreatDoorK07
import Derived.Laws.MakeOwn
namespace Go.Proofs.YthhfmppealmblaaGreatDoor
open Go.RowKit
theorem made_flat {α:Type} {enc:α→List Value} (x:α) {k:Nat} (hk:∀ y,(enc y).length=k) (hk0:0<k) (n:Nat):(madeCells (enc x).toArray (n * k)).toList=((List.replicate n x).map enc).flatten:=by
 apply List.ext_getElem?
 intro q
 by_cases h:q<n * k
 ·have hd:=Nat.div_add_mod q k
  have hm:=Nat.mod_lt q hk0
  have hql:q / k<n:=(Nat.div_lt_iff_lt_mul hk0).2 h
  have e1:=flat_get ((List.replicate n x).map enc) (by intro r hr;obtain ⟨p,_,rfl⟩:=List.mem_map.1 hr;exact hk p) (q / k) (by simpa using hql) (q % k) hm
  rw [Nat.mul_comm (q / k) k,hd] at e1
  rw [e1]
  simp only [List.getElem_map,List.getElem_replicate,madeCells,Array.getElem?_toList,Array.getElem?_map]
  rw [Array.getElem?_range,if_pos h]
  simp only [Option.map_some,List.size_toArray,hk x]
  rw [List.getElem?_eq_getElem (by rw [hk];exact hm),getElem!_pos _ _ (by simpa [hk x] using hm)]
  simp
 ·rw [List.getElem?_eq_none (by rw [Array.length_toList,size_madeCells];omega),List.getElem?_eq_none (by rw [enc_len hk,List.length_replicate];omega)]
theorem run_make_rowN {P:Program} (t e:TypeId) (i:TypeInfo) (z:Value) (ht:P.underlying t=some (.slice e)) (hi:P.info? e=some i) (hz:i.zero=some z)
  (kl kc:IntKind) (n c:Nat) (hnc:n≤c) (hbytes:i.bytes * c≤281474976710656) (h63:c≤9223372036854775807) (w:World) :
  (Instr.makeSlice t (.int kl (n:Int)) (.int kc (c:Int))).run P w = .ok (.slice (some ⟨w.heap.size,0,none⟩) n c) (w.alloc (.cells (madeCells z.cells (c * i.size)) e)):=by
 have hb:(i.bytes:Int) * (c:Int)≤281474976710656:=by
  have h:((i.bytes * c:Nat):Int)≤281474976710656:=by omega
  rwa [Int.natCast_mul] at h
 have hr:=run_make (P:=P) w t e i z ht hi hz kl kc n c (by omega) (by omega) hb (by omega)
 simp only [Int.toNat_natCast] at hr
 exact hr
theorem make_ints (n:Nat) (hn:n≤1000000):∀ w:World,(Instr.makeSlice 67 (.int .i64 (n:Int)) (.int .i64 (n:Int))).run Tryz.prog w = .ok (.slice (some ⟨w.heap.size,0,none⟩) n n) (w.alloc (.cells (madeCells #[.slice none 0 0] (n * 1)) 68)):=by
 intro w
 obtain ⟨i0,hi,hz0,hz1,hz2⟩:=info_parts ints_info2
 have:=run_make_rowN (P:=Tryz.prog) 67 68 i0 _ Tryz.underlying67 hi hz0 .i64 .i64 n n (Nat.le_refl _) (by rw [hz2];omega) (by omega) w
 rw [hz1] at this
 exact this
theorem made_get (n:Nat) {d:Nat} (hd:d<n):(madeCells #[Value.slice none 0 0] (n * 1))[d]?=some (.slice none 0 0):=by
 have h:=made_flat (enc:=fun _:Unit=>[Value.slice none 0 0]) () (k:=1) (fun _=>rfl) (by omega) n
 have h2:(madeCells #[Value.slice none 0 0] (n * 1)).toList[d]?=some (.slice none 0 0):=by
  rw [show (madeCells #[Value.slice none 0 0] (n * 1)).toList=_ from h]
  rw [List.flatten_eq_flatMap]
  simp [hd]
 rwa [Array.getElem?_toList] at h2
theorem RwsI.mid {base n KB:Nat} {vals:Nat→Value} {G:Nat→List Int} {W W3:World} (h:RwsI base n KB vals G W) {d:Nat} (hd:d<n) {o:Obj} (hg:(W.alloc o).grownBy W3 (vals d).ownBlock):W3.cell? ⟨KB,d,none⟩=some (vals d)∧W3.frozen? ⟨KB,d,none⟩=false∧∃ ks,Blk W3 KB 68 ks:=by
 have hw:Below W.heap.size W (W.alloc o):=(Below.refl _ _).alloc (Nat.le_refl _) _
 have h2:=h.below hw
 obtain ⟨cs,h3,h4,h5⟩:=h2.blk
 have h6:=h3.grown hg (row_not (h2.rows d hd) h3 (by decide))
 exact ⟨by rw [h6.cell];exact h5 d hd,h6.frozen d,cs,h6⟩
end Go.Proofs.YthhfmppealmblaaGreatDoor
