/-
  A part of the proof: APk.
-/
import Derived.Test.YthhfmppealmblaaGreatDoorK02
namespace Go.Proofs.YthhfmppealmblaaGreatDoor
open Go.RowKit
set_option maxRecDepth 100000 in
set_option maxHeartbeats 3200000 in
theorem sw_keylo (S:Sp) (hl:S.ds.length≤6∧S.ss.length≤80∧S.cs.length≤24) (B PB eb eo db dd:Nat) (a3 a4:Option Addr) (c1 c3 c4:Nat) (d:Nat) (hd:d<S.ds.length) (n lo hi:Int) (h:n<lo) (w:World) (hf:SwF S B PB eb eo (some ⟨db,dd,none⟩) a3 a4 c1 c3 c4 1 d n w) (o:Option Nat) (ho:o=none) (hdb:db<w.heap.size)
  (r:(∃ u,w.cell? ⟨db,dd+d * 3,none⟩=some (.string u))∧w.cell? ⟨db,dd+d * 3+1,none⟩=some (.int .i64 lo)∧w.cell? ⟨db,dd+d * 3+2,none⟩=some (.int .i64 hi)) :
  Calls Tryz.prog 91 #[.pointer (some ⟨B,0,none⟩),.pointer (some ⟨eb,eo,none⟩)] w (SwR B o w):=by
 obtain ⟨l1,l2,l3⟩:=hl
 obtain ⟨p0,s0,s2,s3,e1,e2,e3⟩:=hf
 obtain ⟨⟨u,r0⟩,r1,r2⟩:=r
 have HO:=Lib.hid ho
 clear ho
 have hd2:(d:Int)<(S.ds.length:Int):=by omega
 have dt15:decide (d<S.ds.length)=true:=by rw [decide_eq_true_iff];omega
 have df16:decide (lo≤n)=false:=by rw [decide_eq_false_iff_not];omega
 go_enter Tryz.func91,Tryz.ntmps91
 go_wp2_with fail
 go_quiet (fail)
 go_wp2_with fail
 obtain ⟨W,hW⟩:∃ W,w.drewN nq=W:=⟨_,rfl⟩
 have HB:=Lib.hid (show Below w.heap.size w W by rw [← hW];exact below_drewN (Below.refl _ _) _)
 rw [hW]
 have hbz:db<W.heap.size:=Nat.lt_of_lt_of_le hdb HB.out.size
 have q0:=cell_alloc ((HB.out.cell hdb).trans r0) (.cells #[.string u,.int .i64 lo,.int .i64 hi] 84)
 replace p0:=(HB.out.cell (cell_size p0)).trans p0
 replace s0:=(HB.out.cell (cell_size s0)).trans s0
 replace e1:=(HB.out.cell (cell_size e1)).trans e1
 replace e2:=(HB.out.cell (cell_size e2)).trans e2
 replace e3:=(HB.out.cell (cell_size e3)).trans e3
 replace r0:=(HB.out.cell (cell_size r0)).trans r0
 replace r1:=(HB.out.cell (cell_size r1)).trans r1
 replace r2:=(HB.out.cell (cell_size r2)).trans r2
 have KX:=Lib.hid (Blk.new W 84 #[.string u,.int .i64 lo,.int .i64 hi])
 have x3:=cell_alloc e3 (.cells #[.string u,.int .i64 lo,.int .i64 hi] 84)
 have HB1:=Lib.hid (show Below w.heap.size w (W.alloc (.cells #[.string u,.int .i64 lo,.int .i64 hi] 84)) from HB.out.alloc HB.out.size _)
 have y0:=cell_alloc p0
 have y1:=cell_alloc s0
 have y2:=cell_alloc e2
 have y3:=cell_alloc r0
 have y4:=cell_alloc r1
 have y5:=cell_alloc r2
 clear hW q0
 go_region
 obtain ⟨X,hX⟩:∃ X,W.heap.size=X:=⟨_,rfl⟩
 rw [hX] at KX
 have p1:=y0 (.cells #[.string u,.int .i64 lo,.int .i64 hi] 84)
 have x2:=y2 (.cells #[.string u,.int .i64 lo,.int .i64 hi] 84)
 have x1:=cell_alloc e1 (.cells #[.string u,.int .i64 lo,.int .i64 hi] 84)
 generalize W.alloc (.cells #[.string u,.int .i64 lo,.int .i64 hi] 84)=W1 at *
 have z1:W1.cell? ⟨X,1,none⟩=some (.int .i64 lo):=KX.out.cell 1
 have z2:W1.cell? ⟨X,2,none⟩=some (.int .i64 hi):=KX.out.cell 2
 rw [hX]
 clear y0 y1 y2 y3 y4 y5 hX p0 s0 s2 s3 e1 e2 e3 r0 r1 r2
 go_wp2_with fail
 go_quiet (fail)
 go_wp2
 go_ret
 exact swR (by rw [HO.out];rfl) (below_drewN (below_drew HB1.out) _)
set_option maxRecDepth 100000 in
set_option maxHeartbeats 3200000 in
theorem sw_keyhi (S:Sp) (hl:S.ds.length≤6∧S.ss.length≤80∧S.cs.length≤24) (B PB eb eo db dd:Nat) (a3 a4:Option Addr) (c1 c3 c4:Nat) (d:Nat) (hd:d<S.ds.length) (n lo hi:Int) (h1:lo≤n) (h:hi<n) (w:World) (hf:SwF S B PB eb eo (some ⟨db,dd,none⟩) a3 a4 c1 c3 c4 1 d n w) (o:Option Nat) (ho:o=none) (hdb:db<w.heap.size)
  (r:(∃ u,w.cell? ⟨db,dd+d * 3,none⟩=some (.string u))∧w.cell? ⟨db,dd+d * 3+1,none⟩=some (.int .i64 lo)∧w.cell? ⟨db,dd+d * 3+2,none⟩=some (.int .i64 hi)) :
  Calls Tryz.prog 91 #[.pointer (some ⟨B,0,none⟩),.pointer (some ⟨eb,eo,none⟩)] w (SwR B o w):=by
 obtain ⟨l1,l2,l3⟩:=hl
 obtain ⟨p0,s0,s2,s3,e1,e2,e3⟩:=hf
 obtain ⟨⟨u,r0⟩,r1,r2⟩:=r
 have HO:=Lib.hid ho
 clear ho
 have hd2:(d:Int)<(S.ds.length:Int):=by omega
 have dt17:decide (d<S.ds.length)=true:=by rw [decide_eq_true_iff];omega
 have dt18:decide (lo≤n)=true:=by rw [decide_eq_true_iff];omega
 have df19:decide (n≤hi)=false:=by rw [decide_eq_false_iff_not];omega
 go_enter Tryz.func91,Tryz.ntmps91
 go_wp2_with fail
 go_quiet (fail)
 go_wp2_with fail
 obtain ⟨W,hW⟩:∃ W,w.drewN nq=W:=⟨_,rfl⟩
 have HB:=Lib.hid (show Below w.heap.size w W by rw [← hW];exact below_drewN (Below.refl _ _) _)
 rw [hW]
 have hbz:db<W.heap.size:=Nat.lt_of_lt_of_le hdb HB.out.size
 have q0:=cell_alloc ((HB.out.cell hdb).trans r0) (.cells #[.string u,.int .i64 lo,.int .i64 hi] 84)
 replace p0:=(HB.out.cell (cell_size p0)).trans p0
 replace s0:=(HB.out.cell (cell_size s0)).trans s0
 replace e1:=(HB.out.cell (cell_size e1)).trans e1
 replace e2:=(HB.out.cell (cell_size e2)).trans e2
 replace e3:=(HB.out.cell (cell_size e3)).trans e3
 replace r0:=(HB.out.cell (cell_size r0)).trans r0
 replace r1:=(HB.out.cell (cell_size r1)).trans r1
 replace r2:=(HB.out.cell (cell_size r2)).trans r2
 have KX:=Lib.hid (Blk.new W 84 #[.string u,.int .i64 lo,.int .i64 hi])
 have x3:=cell_alloc e3 (.cells #[.string u,.int .i64 lo,.int .i64 hi] 84)
 have HB1:=Lib.hid (show Below w.heap.size w (W.alloc (.cells #[.string u,.int .i64 lo,.int .i64 hi] 84)) from HB.out.alloc HB.out.size _)
 have y0:=cell_alloc p0
 have y1:=cell_alloc s0
 have y2:=cell_alloc e2
 have y3:=cell_alloc r0
 have y4:=cell_alloc r1
 have y5:=cell_alloc r2
 clear hW q0
 go_region
 obtain ⟨X,hX⟩:∃ X,W.heap.size=X:=⟨_,rfl⟩
 rw [hX] at KX
 have p1:=y0 (.cells #[.string u,.int .i64 lo,.int .i64 hi] 84)
 have x2:=y2 (.cells #[.string u,.int .i64 lo,.int .i64 hi] 84)
 have x1:=cell_alloc e1 (.cells #[.string u,.int .i64 lo,.int .i64 hi] 84)
 generalize W.alloc (.cells #[.string u,.int .i64 lo,.int .i64 hi] 84)=W1 at *
 have z1:W1.cell? ⟨X,1,none⟩=some (.int .i64 lo):=KX.out.cell 1
 have z2:W1.cell? ⟨X,2,none⟩=some (.int .i64 hi):=KX.out.cell 2
 rw [hX]
 clear y0 y1 y2 y3 y4 y5 hX p0 s0 s2 s3 e1 e2 e3 r0 r1 r2
 go_wp2_with fail
 go_quiet (fail)
 go_wp2
 go_ret
 exact swR (by rw [HO.out];rfl) (below_drewN (below_drew HB1.out) _)
set_option maxRecDepth 100000 in
set_option maxHeartbeats 3200000 in
theorem sw_keyg (S:Sp) (hl:S.ds.length≤6∧S.ss.length≤80∧S.cs.length≤24) (B PB eb eo db dd:Nat) (a3 a4:Option Addr) (c1 c3 c4:Nat) (d:Nat) (hd:d<S.ds.length) (m:Nat) (lo hi:Int) (h1:lo≤m) (h2:(m:Int)≤hi) (h3:m<128) (w:World) (hf:SwF S B PB eb eo (some ⟨db,dd,none⟩) a3 a4 c1 c3 c4 1 d m w) (o:Option Nat) (ho:o=some (1+d * 128+m)) (hdb:db<w.heap.size)
  (r:(∃ u,w.cell? ⟨db,dd+d * 3,none⟩=some (.string u))∧w.cell? ⟨db,dd+d * 3+1,none⟩=some (.int .i64 lo)∧w.cell? ⟨db,dd+d * 3+2,none⟩=some (.int .i64 hi)) :
  Calls Tryz.prog 91 #[.pointer (some ⟨B,0,none⟩),.pointer (some ⟨eb,eo,none⟩)] w (SwR B o w):=by
 obtain ⟨l1,l2,l3⟩:=hl
 obtain ⟨p0,s0,s2,s3,e1,e2,e3⟩:=hf
 obtain ⟨⟨u,r0⟩,r1,r2⟩:=r
 have HO:=Lib.hid ho
 clear ho
 have hd2:(d:Int)<(S.ds.length:Int):=by omega
 have dt20:decide (d<S.ds.length)=true:=by rw [decide_eq_true_iff];omega
 have dt21:decide (lo≤(m:Int))=true:=by rw [decide_eq_true_iff];omega
 have dt22:decide ((m:Int)≤hi)=true:=by rw [decide_eq_true_iff];omega
 have d6:(d:Int)<6:=by omega
 have m128:(m:Int)<128:=by omega
 go_enter Tryz.func91,Tryz.ntmps91
 go_wp2_with fail
 go_quiet (fail)
 go_wp2_with fail
 obtain ⟨W,hW⟩:∃ W,w.drewN nq=W:=⟨_,rfl⟩
 have HB:=Lib.hid (show Below w.heap.size w W by rw [← hW];exact below_drewN (Below.refl _ _) _)
 rw [hW]
 have hbz:db<W.heap.size:=Nat.lt_of_lt_of_le hdb HB.out.size
 have q0:=cell_alloc ((HB.out.cell hdb).trans r0) (.cells #[.string u,.int .i64 lo,.int .i64 hi] 84)
 replace p0:=(HB.out.cell (cell_size p0)).trans p0
 replace s0:=(HB.out.cell (cell_size s0)).trans s0
 replace e1:=(HB.out.cell (cell_size e1)).trans e1
 replace e2:=(HB.out.cell (cell_size e2)).trans e2
 replace e3:=(HB.out.cell (cell_size e3)).trans e3
 replace r0:=(HB.out.cell (cell_size r0)).trans r0
 replace r1:=(HB.out.cell (cell_size r1)).trans r1
 replace r2:=(HB.out.cell (cell_size r2)).trans r2
 have KX:=Lib.hid (Blk.new W 84 #[.string u,.int .i64 lo,.int .i64 hi])
 have x3:=cell_alloc e3 (.cells #[.string u,.int .i64 lo,.int .i64 hi] 84)
 have HB1:=Lib.hid (show Below w.heap.size w (W.alloc (.cells #[.string u,.int .i64 lo,.int .i64 hi] 84)) from HB.out.alloc HB.out.size _)
 have y0:=cell_alloc p0
 have y1:=cell_alloc s0
 have y2:=cell_alloc e2
 have y3:=cell_alloc r0
 have y4:=cell_alloc r1
 have y5:=cell_alloc r2
 clear hW q0
 go_region
 obtain ⟨X,hX⟩:∃ X,W.heap.size=X:=⟨_,rfl⟩
 rw [hX] at KX
 have p1:=y0 (.cells #[.string u,.int .i64 lo,.int .i64 hi] 84)
 have x2:=y2 (.cells #[.string u,.int .i64 lo,.int .i64 hi] 84)
 have x1:=cell_alloc e1 (.cells #[.string u,.int .i64 lo,.int .i64 hi] 84)
 generalize W.alloc (.cells #[.string u,.int .i64 lo,.int .i64 hi] 84)=W1 at *
 have z1:W1.cell? ⟨X,1,none⟩=some (.int .i64 lo):=KX.out.cell 1
 have z2:W1.cell? ⟨X,2,none⟩=some (.int .i64 hi):=KX.out.cell 2
 rw [hX]
 clear y0 y1 y2 y3 y4 y5 hX p0 s0 s2 s3 e1 e2 e3 r0 r1 r2
 go_wp2_with fail
 go_quiet (fail)
 go_wp2_with fail
 go_quiet (fail)
 go_wp2
 go_ret
 exact swR (by rw [HO.out];rfl) (below_drewN (below_drewN (below_drew HB1.out) _) _)
theorem switched_any (v1 v2 v3 v4:Value) (S:Sp) (hc:(checkP S).2=0) (f:Nat→Value) (B PB eb eo:Nat) (k d n:Int) (w:World) (hsp:SpRd w v1 v2 v3 v4 f S) (hP:Blk w PB 27 #[v1,v2,v3,v4]) (p0:w.cell? ⟨B,0,none⟩=some (.pointer (some ⟨PB,0,none⟩)))
  (e1:w.cell? ⟨eb,eo+1,none⟩=some (.int .i64 k)) (e2:w.cell? ⟨eb,eo+2,none⟩=some (.int .i64 d)) (e3:w.cell? ⟨eb,eo+3,none⟩=some (.int .i64 n)) :
  Calls Tryz.prog 91 #[.pointer (some ⟨B,0,none⟩),.pointer (some ⟨eb,eo,none⟩)] w (SwR B (swI S k d n) w):=by
 obtain ⟨l1,_,l2,l3⟩:=sp_lens hc
 have hl:=And.intro l1 (And.intro l2 l3)
 obtain ⟨⟨a1,c1,rfl⟩,_,⟨a3,c3,rfl⟩,⟨a4,c4,rfl⟩⟩:=hsp.forms
 obtain ⟨s0,_,s2,s3⟩:=hP.four
 have hf:SwF S B PB eb eo a1 a3 a4 c1 c3 c4 k d n w:=⟨p0,s0,s2,s3,e1,e2,e3⟩
 by_cases k1:k=1
 ·subst k1
  by_cases d0:d<0
  ·exact sw_keya S hl B PB eb eo a1 a3 a4 c1 c3 c4 d n d0 w hf
  by_cases d1:d<(S.ds.length:Int)
  ·obtain ⟨d,rfl⟩:=Int.eq_ofNat_of_zero_le (show 0≤d by omega)
   have hd:d<S.ds.length:=by omega
   obtain ⟨b,o,c,ev,hbl,r0,r1,r2⟩:=hsp.dAt d hd
   cases ev
   have hk:=keyIn_at hd n
   by_cases n0:S.ds[d].lo≤n∧n≤S.ds[d].hi
   ·have hs:=dv_small hc (List.getElem_mem hd)
    obtain ⟨m,rfl⟩:=Int.eq_ofNat_of_zero_le (show 0≤n by omega)
    refine sw_keyg S hl B PB eb eo b o a3 a4 c1 c3 c4 d hd m _ _ n0.1 n0.2 (by omega) w hf _ ?_ hbl ⟨⟨_,r0⟩,r1,r2⟩
    rw [swI,if_pos rfl,if_pos ⟨by omega,by omega,by rw [hk,decide_eq_true_iff];exact n0⟩,Int.toNat_natCast,Int.toNat_natCast]
   ·have hn:swI S 1 (d:Int) n=none:=swI_off (fun q=>n0 (by have:=q.2.2.2;rwa [hk,decide_eq_true_iff] at this)) (by omega) (by omega)
    by_cases n1:n<S.ds[d].lo
    ·exact sw_keylo S hl B PB eb eo b o a3 a4 c1 c3 c4 d hd n _ _ n1 w hf _ hn hbl ⟨⟨_,r0⟩,r1,r2⟩
    ·exact sw_keyhi S hl B PB eb eo b o a3 a4 c1 c3 c4 d hd n _ _ (by omega) (by omega) w hf _ hn hbl ⟨⟨_,r0⟩,r1,r2⟩
  ·exact sw_keyb S hl B PB eb eo a1 a3 a4 c1 c3 c4 d n (by omega) d1 w hf
 by_cases k2:k=2
 ·subst k2
  by_cases d0:d=0
  ·subst d0
   by_cases n0:n<0
   ·exact sw_stopa S hl B PB eb eo a1 a3 a4 c1 c3 c4 n n0 w hf
   by_cases n1:n<(S.ss.length:Int)
   ·obtain ⟨n,rfl⟩:=Int.eq_ofNat_of_zero_le (show 0≤n by omega)
    exact sw_stopg S hl B PB eb eo a1 a3 a4 c1 c3 c4 n (by omega) w hf
   ·exact sw_stopb S hl B PB eb eo a1 a3 a4 c1 c3 c4 n (by omega) n1 w hf
  ·exact sw_stopd S hl B PB eb eo a1 a3 a4 c1 c3 c4 d n d0 w hf
 by_cases k3:k=3
 ·subst k3
  by_cases d0:d=0
  ·subst d0
   by_cases n0:n<0
   ·exact sw_coua S hl B PB eb eo a1 a3 a4 c1 c3 c4 n n0 w hf
   by_cases n1:n<(S.cs.length:Int)
   ·obtain ⟨n,rfl⟩:=Int.eq_ofNat_of_zero_le (show 0≤n by omega)
    exact sw_coug S hl B PB eb eo a1 a3 a4 c1 c3 c4 n (by omega) w hf
   ·exact sw_coub S hl B PB eb eo a1 a3 a4 c1 c3 c4 n (by omega) n1 w hf
  ·exact sw_coud S hl B PB eb eo a1 a3 a4 c1 c3 c4 d n d0 w hf
 exact sw_other S hl B PB eb eo a1 a3 a4 c1 c3 c4 k d n ⟨k1,k2,k3⟩ w hf
end Go.Proofs.YthhfmppealmblaaGreatDoor
