/-
  A part of the proof: APl.
-/
import Derived.Test.YthhfmppealmblaaGreatDoorN07
import Derived.Test.YthhfmppealmblaaGreatDoorN11
namespace Go.Proofs.YthhfmppealmblaaGreatDoor
open Go.RowKit
def plC (PB:Nat) (cs:Array Value) (t:Int):Array Value:=#[.pointer (some ⟨PB,0,none⟩)]++cs ++ #[.int .i64 t]
theorem plC_size {PB:Nat} {cs:Array Value} {t:Int} (h:cs.size=876):(plC PB cs t).size=878:=by simp [plC,h]
theorem plC_sp (PB:Nat) (cs:Array Value) (t:Int):(plC PB cs t)[0]?=some (.pointer (some ⟨PB,0,none⟩)):=by
 unfold plC
 rw [Array.append_assoc,Array.getElem?_append_left (by simp)]
 rfl
theorem plC_on {PB:Nat} {cs:Array Value} {t:Int} (h:cs.size=876) {i:Nat} (hi:i<876):(plC PB cs t)[1+i]?=cs[i]?:=by
 unfold plC
 rw [Array.getElem?_append_left (by simp [h];omega),Array.getElem?_append_right (by simp)]
 congr 1
 simp
theorem plC_tick {PB:Nat} {cs:Array Value} {t:Int} (h:cs.size=876):(plC PB cs t)[877]?=some (.int .i64 t):=by
 unfold plC
 rw [Array.getElem?_append_right (by simp [h])]
 simp [h]
theorem plC_set {PB:Nat} {cs:Array Value} {t:Int} (h:cs.size=876) {i:Nat} (hi:i<876) (v:Value):(plC PB cs t).setIfInBounds (1+i) v=plC PB (cs.setIfInBounds i v) t:=by
 refine Array.ext_getElem? fun j=>?_
 rw [Array.getElem?_setIfInBounds,plC_size h]
 by_cases e:1+i=j
 ·subst e
  rw [if_pos rfl,if_pos (by omega),plC_on (by rw [Array.size_setIfInBounds];exact h) hi,Array.getElem?_setIfInBounds_self_of_lt (by omega)]
 ·rw [if_neg e]
  by_cases h0:j=0
  ·subst h0;rw [plC_sp,plC_sp]
  ·by_cases h1:j<877
   ·obtain ⟨k,rfl⟩:∃ k,j=1+k:=⟨j-1,by omega⟩
    rw [plC_on h (by omega),plC_on (by rw [Array.size_setIfInBounds];exact h) (by omega),Array.getElem?_setIfInBounds_ne (by omega)]
   ·by_cases h2:j=877
    ·subst h2;rw [plC_tick h,plC_tick (by rw [Array.size_setIfInBounds];exact h)]
    ·rw [Array.getElem?_eq_none (by rw [plC_size h];omega),Array.getElem?_eq_none (by rw [plC_size (by rw [Array.size_setIfInBounds];exact h)];omega)]
theorem plC_setTick {PB:Nat} {cs:Array Value} {t:Int} (h:cs.size=876) (u:Int):(plC PB cs t).setIfInBounds 877 (.int .i64 u)=plC PB cs u:=by
 refine Array.ext_getElem? fun j=>?_
 rw [Array.getElem?_setIfInBounds,plC_size h]
 by_cases e:877=j
 ·subst e;rw [if_pos rfl,if_pos (by omega),plC_tick h]
 ·rw [if_neg e]
  by_cases h0:j=0
  ·subst h0;rw [plC_sp,plC_sp]
  ·by_cases h1:j<877
   ·obtain ⟨k,rfl⟩:∃ k,j=1+k:=⟨j-1,by omega⟩
    rw [plC_on h (by omega),plC_on h (by omega)]
   ·rw [Array.getElem?_eq_none (by rw [plC_size h];omega),Array.getElem?_eq_none (by rw [plC_size h];omega)]
structure PlX (f:Th→Int) (t:Int) (PB:Nat) (W:World) (B:Nat):Prop where
 ex:∃ cs,OnI f cs∧Blk W B 134 (plC PB cs t)
theorem PlX.below {f:Th→Int} {t:Int} {PB B:Nat} {W W':World} (h:PlX f t PB W B) (hb:Below W.heap.size W W'):PlX f t PB W' B:=by
 obtain ⟨cs,h1,h2⟩:=h.ex
 exact ⟨cs,h1,h2.below hb⟩
theorem PlX.lt {f:Th→Int} {t:Int} {PB B:Nat} {W:World} (h:PlX f t PB W B):B<W.heap.size:=by
 obtain ⟨cs,h1,h2⟩:=h.ex
 exact h2.lt
theorem PlX.sp {f:Th→Int} {t:Int} {PB B:Nat} {W:World} (h:PlX f t PB W B):W.cell? ⟨B,0,none⟩=some (.pointer (some ⟨PB,0,none⟩)):=by
 obtain ⟨cs,h1,h2⟩:=h.ex
 rw [h2.cell];exact plC_sp _ _ _
theorem PlX.tick {f:Th→Int} {t:Int} {PB B:Nat} {W:World} (h:PlX f t PB W B):W.cell? ⟨B,877,none⟩=some (.int .i64 t):=by
 obtain ⟨cs,h1,h2⟩:=h.ex
 rw [h2.cell];exact plC_tick h1.size
theorem PlX.on {f:Th→Int} {t:Int} {PB B:Nat} {W:World} (h:PlX f t PB W B) {u:Th} {i:Nat} (hu:OnIx u i):W.cell? ⟨B,1+i,none⟩=some (onCell u (f u)):=by
 obtain ⟨cs,h1,h2⟩:=h.ex
 rw [h2.cell,plC_on h1.size (onIx_lt hu)]
 exact h1.val u i hu
theorem PlX.free {f:Th→Int} {t:Int} {PB B:Nat} {W:World} (h:PlX f t PB W B) (i:Nat):W.frozen? ⟨B,i,none⟩=false:=by
 obtain ⟨cs,h1,h2⟩:=h.ex
 exact h2.frozen i
theorem PlX.set {f:Th→Int} {t:Int} {PB B:Nat} {W:World} (h:PlX f t PB W B) {u:Th} {i:Nat} (hu:OnIx u i) (v:Int):PlX (fun x=>if x=u then v else f x) t PB (W.setCell ⟨B,1+i,none⟩ (onCell u v)) B:=by
 obtain ⟨cs,h1,h2⟩:=h.ex
 refine ⟨_,h1.set hu v,?_⟩
 rw [← plC_set h1.size (onIx_lt hu)]
 exact h2.set _ _
theorem PlX.setTick {f:Th→Int} {t:Int} {PB B:Nat} {W:World} (h:PlX f t PB W B) (u:Int):PlX f u PB (W.setCell ⟨B,877,none⟩ (.int .i64 u)) B:=by
 obtain ⟨cs,h1,h2⟩:=h.ex
 refine ⟨cs,h1,?_⟩
 rw [← plC_setTick h1.size u]
 exact h2.set _ _
def swI (S:Sp) (k d n:Int):Option Nat :=
 if k=1 then (if 0≤d∧d<S.ds.length∧keyIn S d n=true then some (1+d.toNat * 128+n.toNat) else none)
 else if k=2 then (if d=0∧0≤n∧n<S.ss.length then some (769+n.toNat) else none)
 else if k=3 then (if d=0∧0≤n∧n<S.cs.length then some (849+n.toNat) else none) else none
def SwR (B:Nat) (o:Option Nat) (w:World) (e:Ending) (w':World):Prop:=e = .returned (.pointer (o.map fun i=>⟨B,i,none⟩))∧Below w.heap.size w w'
theorem swR {B:Nat} {o:Option Nat} {p:Option Addr} (h:p=o.map fun i=>(⟨B,i,none⟩:Addr)) {w w':World} (hb:Below w.heap.size w w'):SwR B o w (.returned (.pointer p)) w':=⟨by rw [h],hb⟩
structure SwF (S:Sp) (B PB eb eo:Nat) (a1 a3 a4:Option Addr) (c1 c3 c4:Nat) (k d n:Int) (w:World):Prop where
 p0:w.cell? ⟨B,0,none⟩=some (.pointer (some ⟨PB,0,none⟩))
 s0:w.cell? ⟨PB,0,none⟩=some (.slice a1 S.ds.length c1)
 s2:w.cell? ⟨PB,2,none⟩=some (.slice a3 S.ss.length c3)
 s3:w.cell? ⟨PB,3,none⟩=some (.slice a4 S.cs.length c4)
 e1:w.cell? ⟨eb,eo+1,none⟩=some (.int .i64 k)
 e2:w.cell? ⟨eb,eo+2,none⟩=some (.int .i64 d)
 e3:w.cell? ⟨eb,eo+3,none⟩=some (.int .i64 n)
theorem swI_off {S:Sp} {k d n:Int} (h:¬ (k=1∧0≤d∧d<S.ds.length∧keyIn S d n=true)) (h2:¬ (k=2∧d=0∧0≤n∧n<S.ss.length)) (h3:¬ (k=3∧d=0∧0≤n∧n<S.cs.length)):swI S k d n=none:=by
 unfold swI
 by_cases e1:k=1
 ·rw [if_pos e1,if_neg (fun q=>h ⟨e1,q⟩)]
 ·rw [if_neg e1]
  by_cases e2:k=2
  ·rw [if_pos e2,if_neg (fun q=>h2 ⟨e2,q⟩)]
  ·rw [if_neg e2]
   by_cases e3:k=3
   ·rw [if_pos e3,if_neg (fun q=>h3 ⟨e3,q⟩)]
   ·rw [if_neg e3]
theorem keyIn_at {S:Sp} {d:Nat} (hd:d<S.ds.length) (n:Int):keyIn S (d:Int) n=decide (S.ds[d].lo≤n∧n≤S.ds[d].hi):=by unfold keyIn;rw [Int.toNat_natCast,List.getElem?_eq_getElem hd]
set_option maxRecDepth 100000 in
set_option maxHeartbeats 3200000 in
theorem sw_other (S:Sp) (hl:S.ds.length≤6∧S.ss.length≤80∧S.cs.length≤24) (B PB eb eo:Nat) (a1 a3 a4:Option Addr) (c1 c3 c4:Nat) (k d n:Int) (h:¬ k=1∧¬ k=2∧¬ k=3) (w:World) (hf:SwF S B PB eb eo a1 a3 a4 c1 c3 c4 k d n w) :
  Calls Tryz.prog 91 #[.pointer (some ⟨B,0,none⟩),.pointer (some ⟨eb,eo,none⟩)] w (SwR B (swI S k d n) w):=by
 obtain ⟨l1,l2,l3⟩:=hl
 obtain ⟨p0,s0,s2,s3,e1,e2,e3⟩:=hf
 have hA:(k==1)=false:=beq_eq_false_iff_ne.2 (by omega)
 have hB:(k==2)=false:=beq_eq_false_iff_ne.2 (by omega)
 have hC:(k==3)=false:=beq_eq_false_iff_ne.2 (by omega)
 go_enter Tryz.func91,Tryz.ntmps91
 go_wp2_with fail
 go_quiet (fail)
 go_wp2_with fail
 go_quiet (fail)
 go_wp2_with fail
 go_quiet (fail)
 go_wp2
 go_ret
 exact swR (by rw [swI_off (by omega) (by omega) (by omega)];rfl) (below_drewN (below_drewN (below_drewN (Below.refl _ _) _) _) _)
set_option maxRecDepth 100000 in
set_option maxHeartbeats 3200000 in
theorem sw_keya (S:Sp) (hl:S.ds.length≤6∧S.ss.length≤80∧S.cs.length≤24) (B PB eb eo:Nat) (a1 a3 a4:Option Addr) (c1 c3 c4:Nat) (d n:Int) (h:d<0) (w:World) (hf:SwF S B PB eb eo a1 a3 a4 c1 c3 c4 1 d n w) :
  Calls Tryz.prog 91 #[.pointer (some ⟨B,0,none⟩),.pointer (some ⟨eb,eo,none⟩)] w (SwR B (swI S 1 d n) w):=by
 obtain ⟨l1,l2,l3⟩:=hl
 obtain ⟨p0,s0,s2,s3,e1,e2,e3⟩:=hf
 have df1:decide (0≤d)=false:=by rw [decide_eq_false_iff_not];omega
 go_enter Tryz.func91,Tryz.ntmps91
 go_wp2_with fail
 go_quiet (fail)
 go_wp2_with fail
 go_quiet (fail)
 go_wp2_with fail
 go_quiet (fail)
 go_wp2
 go_ret
 exact swR (by rw [swI_off (by omega) (by omega) (by omega)];rfl) (below_drewN (below_drewN (below_drewN (Below.refl _ _) _) _) _)
set_option maxRecDepth 100000 in
set_option maxHeartbeats 3200000 in
theorem sw_keyb (S:Sp) (hl:S.ds.length≤6∧S.ss.length≤80∧S.cs.length≤24) (B PB eb eo:Nat) (a1 a3 a4:Option Addr) (c1 c3 c4:Nat) (d n:Int) (h1:0≤d) (h:¬ d<(S.ds.length:Int)) (w:World) (hf:SwF S B PB eb eo a1 a3 a4 c1 c3 c4 1 d n w) :
  Calls Tryz.prog 91 #[.pointer (some ⟨B,0,none⟩),.pointer (some ⟨eb,eo,none⟩)] w (SwR B (swI S 1 d n) w):=by
 obtain ⟨l1,l2,l3⟩:=hl
 obtain ⟨p0,s0,s2,s3,e1,e2,e3⟩:=hf
 have dt2:decide (0≤d)=true:=by rw [decide_eq_true_iff];omega
 have df3:decide (d<(S.ds.length:Int))=false:=by rw [decide_eq_false_iff_not];omega
 go_enter Tryz.func91,Tryz.ntmps91
 go_wp2_with fail
 go_quiet (fail)
 go_wp2_with fail
 go_quiet (fail)
 go_wp2_with fail
 go_quiet (fail)
 go_wp2
 go_ret
 exact swR (by rw [swI_off (by omega) (by omega) (by omega)];rfl) (below_drewN (below_drewN (below_drewN (Below.refl _ _) _) _) _)
set_option maxRecDepth 100000 in
set_option maxHeartbeats 3200000 in
theorem sw_stopd (S:Sp) (hl:S.ds.length≤6∧S.ss.length≤80∧S.cs.length≤24) (B PB eb eo:Nat) (a1 a3 a4:Option Addr) (c1 c3 c4:Nat) (d n:Int) (h:¬ d=0) (w:World) (hf:SwF S B PB eb eo a1 a3 a4 c1 c3 c4 2 d n w) :
  Calls Tryz.prog 91 #[.pointer (some ⟨B,0,none⟩),.pointer (some ⟨eb,eo,none⟩)] w (SwR B (swI S 2 d n) w):=by
 obtain ⟨l1,l2,l3⟩:=hl
 obtain ⟨p0,s0,s2,s3,e1,e2,e3⟩:=hf
 have hA:(d==0)=false:=beq_eq_false_iff_ne.2 (by omega)
 go_enter Tryz.func91,Tryz.ntmps91
 go_wp2_with fail
 go_quiet (fail)
 go_wp2_with fail
 go_quiet (fail)
 go_wp2_with fail
 go_quiet (fail)
 go_wp2
 go_ret
 exact swR (by rw [swI_off (by omega) (by omega) (by omega)];rfl) (below_drewN (below_drewN (below_drewN (Below.refl _ _) _) _) _)
set_option maxRecDepth 100000 in
set_option maxHeartbeats 3200000 in
theorem sw_stopa (S:Sp) (hl:S.ds.length≤6∧S.ss.length≤80∧S.cs.length≤24) (B PB eb eo:Nat) (a1 a3 a4:Option Addr) (c1 c3 c4:Nat) (n:Int) (h:n<0) (w:World) (hf:SwF S B PB eb eo a1 a3 a4 c1 c3 c4 2 0 n w) :
  Calls Tryz.prog 91 #[.pointer (some ⟨B,0,none⟩),.pointer (some ⟨eb,eo,none⟩)] w (SwR B (swI S 2 0 n) w):=by
 obtain ⟨l1,l2,l3⟩:=hl
 obtain ⟨p0,s0,s2,s3,e1,e2,e3⟩:=hf
 have df4:decide (0≤n)=false:=by rw [decide_eq_false_iff_not];omega
 go_enter Tryz.func91,Tryz.ntmps91
 go_wp2_with fail
 go_quiet (fail)
 go_wp2_with fail
 go_quiet (fail)
 go_wp2_with fail
 go_quiet (fail)
 go_wp2
 go_ret
 exact swR (by rw [swI_off (by omega) (by omega) (by omega)];rfl) (below_drewN (below_drewN (below_drewN (Below.refl _ _) _) _) _)
set_option maxRecDepth 100000 in
set_option maxHeartbeats 3200000 in
theorem sw_stopb (S:Sp) (hl:S.ds.length≤6∧S.ss.length≤80∧S.cs.length≤24) (B PB eb eo:Nat) (a1 a3 a4:Option Addr) (c1 c3 c4:Nat) (n:Int) (h1:0≤n) (h:¬ n<(S.ss.length:Int)) (w:World) (hf:SwF S B PB eb eo a1 a3 a4 c1 c3 c4 2 0 n w) :
  Calls Tryz.prog 91 #[.pointer (some ⟨B,0,none⟩),.pointer (some ⟨eb,eo,none⟩)] w (SwR B (swI S 2 0 n) w):=by
 obtain ⟨l1,l2,l3⟩:=hl
 obtain ⟨p0,s0,s2,s3,e1,e2,e3⟩:=hf
 have dt5:decide (0≤n)=true:=by rw [decide_eq_true_iff];omega
 have df6:decide (n<(S.ss.length:Int))=false:=by rw [decide_eq_false_iff_not];omega
 go_enter Tryz.func91,Tryz.ntmps91
 go_wp2_with fail
 go_quiet (fail)
 go_wp2_with fail
 go_quiet (fail)
 go_wp2_with fail
 go_quiet (fail)
 go_wp2
 go_ret
 exact swR (by rw [swI_off (by omega) (by omega) (by omega)];rfl) (below_drewN (below_drewN (below_drewN (Below.refl _ _) _) _) _)
set_option maxRecDepth 100000 in
set_option maxHeartbeats 3200000 in
theorem sw_coud (S:Sp) (hl:S.ds.length≤6∧S.ss.length≤80∧S.cs.length≤24) (B PB eb eo:Nat) (a1 a3 a4:Option Addr) (c1 c3 c4:Nat) (d n:Int) (h:¬ d=0) (w:World) (hf:SwF S B PB eb eo a1 a3 a4 c1 c3 c4 3 d n w) :
  Calls Tryz.prog 91 #[.pointer (some ⟨B,0,none⟩),.pointer (some ⟨eb,eo,none⟩)] w (SwR B (swI S 3 d n) w):=by
 obtain ⟨l1,l2,l3⟩:=hl
 obtain ⟨p0,s0,s2,s3,e1,e2,e3⟩:=hf
 have hA:(d==0)=false:=beq_eq_false_iff_ne.2 (by omega)
 go_enter Tryz.func91,Tryz.ntmps91
 go_wp2_with fail
 go_quiet (fail)
 go_wp2_with fail
 go_quiet (fail)
 go_wp2_with fail
 go_quiet (fail)
 go_wp2
 go_ret
 exact swR (by rw [swI_off (by omega) (by omega) (by omega)];rfl) (below_drewN (below_drewN (below_drewN (Below.refl _ _) _) _) _)
set_option maxRecDepth 100000 in
set_option maxHeartbeats 3200000 in
theorem sw_coua (S:Sp) (hl:S.ds.length≤6∧S.ss.length≤80∧S.cs.length≤24) (B PB eb eo:Nat) (a1 a3 a4:Option Addr) (c1 c3 c4:Nat) (n:Int) (h:n<0) (w:World) (hf:SwF S B PB eb eo a1 a3 a4 c1 c3 c4 3 0 n w) :
  Calls Tryz.prog 91 #[.pointer (some ⟨B,0,none⟩),.pointer (some ⟨eb,eo,none⟩)] w (SwR B (swI S 3 0 n) w):=by
 obtain ⟨l1,l2,l3⟩:=hl
 obtain ⟨p0,s0,s2,s3,e1,e2,e3⟩:=hf
 have df7:decide (0≤n)=false:=by rw [decide_eq_false_iff_not];omega
 go_enter Tryz.func91,Tryz.ntmps91
 go_wp2_with fail
 go_quiet (fail)
 go_wp2_with fail
 go_quiet (fail)
 go_wp2_with fail
 go_quiet (fail)
 go_wp2
 go_ret
 exact swR (by rw [swI_off (by omega) (by omega) (by omega)];rfl) (below_drewN (below_drewN (below_drewN (Below.refl _ _) _) _) _)
set_option maxRecDepth 100000 in
set_option maxHeartbeats 3200000 in
theorem sw_coub (S:Sp) (hl:S.ds.length≤6∧S.ss.length≤80∧S.cs.length≤24) (B PB eb eo:Nat) (a1 a3 a4:Option Addr) (c1 c3 c4:Nat) (n:Int) (h1:0≤n) (h:¬ n<(S.cs.length:Int)) (w:World) (hf:SwF S B PB eb eo a1 a3 a4 c1 c3 c4 3 0 n w) :
  Calls Tryz.prog 91 #[.pointer (some ⟨B,0,none⟩),.pointer (some ⟨eb,eo,none⟩)] w (SwR B (swI S 3 0 n) w):=by
 obtain ⟨l1,l2,l3⟩:=hl
 obtain ⟨p0,s0,s2,s3,e1,e2,e3⟩:=hf
 have dt8:decide (0≤n)=true:=by rw [decide_eq_true_iff];omega
 have df9:decide (n<(S.cs.length:Int))=false:=by rw [decide_eq_false_iff_not];omega
 go_enter Tryz.func91,Tryz.ntmps91
 go_wp2_with fail
 go_quiet (fail)
 go_wp2_with fail
 go_quiet (fail)
 go_wp2_with fail
 go_quiet (fail)
 go_wp2
 go_ret
 exact swR (by rw [swI_off (by omega) (by omega) (by omega)];rfl) (below_drewN (below_drewN (below_drewN (Below.refl _ _) _) _) _)
set_option maxRecDepth 100000 in
set_option maxHeartbeats 3200000 in
theorem sw_stopg (S:Sp) (hl:S.ds.length≤6∧S.ss.length≤80∧S.cs.length≤24) (B PB eb eo:Nat) (a1 a3 a4:Option Addr) (c1 c3 c4:Nat) (n:Nat) (hn:n<S.ss.length) (w:World) (hf:SwF S B PB eb eo a1 a3 a4 c1 c3 c4 2 0 (n:Int) w) :
  Calls Tryz.prog 91 #[.pointer (some ⟨B,0,none⟩),.pointer (some ⟨eb,eo,none⟩)] w (SwR B (swI S 2 0 (n:Int)) w):=by
 obtain ⟨l1,l2,l3⟩:=hl
 obtain ⟨p0,s0,s2,s3,e1,e2,e3⟩:=hf
 have hn2:(n:Int)<(S.ss.length:Int):=by omega
 have dt10:decide (n<S.ss.length)=true:=by rw [decide_eq_true_iff];omega
 have hn3:(n:Int)<80:=by omega
 go_enter Tryz.func91,Tryz.ntmps91
 go_wp2_with fail
 go_quiet (fail)
 go_wp2_with fail
 go_quiet (fail)
 go_wp2_with fail
 go_quiet (fail)
 go_wp2
 go_ret
 exact swR (by rw [swI,if_neg (by decide),if_pos rfl,if_pos (by omega),Int.toNat_natCast];rfl) (below_drewN (below_drewN (below_drewN (Below.refl _ _) _) _) _)
set_option maxRecDepth 100000 in
set_option maxHeartbeats 3200000 in
theorem sw_coug (S:Sp) (hl:S.ds.length≤6∧S.ss.length≤80∧S.cs.length≤24) (B PB eb eo:Nat) (a1 a3 a4:Option Addr) (c1 c3 c4:Nat) (n:Nat) (hn:n<S.cs.length) (w:World) (hf:SwF S B PB eb eo a1 a3 a4 c1 c3 c4 3 0 (n:Int) w) :
  Calls Tryz.prog 91 #[.pointer (some ⟨B,0,none⟩),.pointer (some ⟨eb,eo,none⟩)] w (SwR B (swI S 3 0 (n:Int)) w):=by
 obtain ⟨l1,l2,l3⟩:=hl
 obtain ⟨p0,s0,s2,s3,e1,e2,e3⟩:=hf
 have hn2:(n:Int)<(S.cs.length:Int):=by omega
 have dt11:decide (n<S.cs.length)=true:=by rw [decide_eq_true_iff];omega
 have hn3:(n:Int)<24:=by omega
 go_enter Tryz.func91,Tryz.ntmps91
 go_wp2_with fail
 go_quiet (fail)
 go_wp2_with fail
 go_quiet (fail)
 go_wp2_with fail
 go_quiet (fail)
 go_wp2_with fail
 go_quiet (fail)
 go_wp2
 go_ret
 exact swR (by rw [swI,if_neg (by decide),if_neg (by decide),if_pos rfl,if_pos (by omega),Int.toNat_natCast];rfl) (below_drewN (below_drewN (below_drewN (below_drewN (Below.refl _ _) _) _) _) _)
end Go.Proofs.YthhfmppealmblaaGreatDoor
