/-
  A part of the proof: AH2.
-/
import Derived.Test.YthhfmppealmblaaGreatDoorM22
import Derived.Laws.MakeOwn
namespace Go.Proofs.YthhfmppealmblaaGreatDoor
open Go.RowKit
theorem made_flat {α:Type} {enc:α→List Value} (x:α) {k:Nat} (hk:∀ y,(enc y).length=k) (hk0:0<k) (n:Nat):(madeCells (enc x).toArray (n * k)).toList=((List.replicate n x).map enc).flatten:=by
 apply List.ext_getElem?
 intro q
 by_cases h:q<n * k
 ·have hd:=Nat.div_add_mod q k
  have hm:=Nat.mod_lt q hk0
  have hql:q / k<n:=(Nat.div_lt_iff_lt_mul hk0).2 h
  have e1:=flat_get ((List.replicate n x).map enc) (by intro r hr;obtain ⟨p,_,rfl⟩:=List.mem_map.1 hr;exact hk p) (q / k) (by simpa using hql) (q % k) hm
  rw [Nat.mul_comm (q / k) k,hd] at e1
  rw [e1]
  simp only [List.getElem_map,List.getElem_replicate,madeCells,Array.getElem?_toList,Array.getElem?_map]
  rw [Array.getElem?_range,if_pos h]
  simp only [Option.map_some,List.size_toArray,hk x]
  rw [List.getElem?_eq_getElem (by rw [hk];exact hm),getElem!_pos _ _ (by simpa [hk x] using hm)]
  simp
 ·rw [List.getElem?_eq_none (by rw [Array.length_toList,size_madeCells];omega),List.getElem?_eq_none (by rw [enc_len hk,List.length_replicate];omega)]
theorem run_make_rowN {P:Program} (t e:TypeId) (i:TypeInfo) (z:Value) (ht:P.underlying t=some (.slice e)) (hi:P.info? e=some i) (hz:i.zero=some z)
  (kl kc:IntKind) (n c:Nat) (hnc:n≤c) (hbytes:i.bytes * c≤281474976710656) (h63:c≤9223372036854775807) (w:World) :
  (Instr.makeSlice t (.int kl (n:Int)) (.int kc (c:Int))).run P w = .ok (.slice (some ⟨w.heap.size,0,none⟩) n c) (w.alloc (.cells (madeCells z.cells (c * i.size)) e)):=by
 have hb:(i.bytes:Int) * (c:Int)≤281474976710656:=by
  have h:((i.bytes * c:Nat):Int)≤281474976710656:=by omega
  rwa [Int.natCast_mul] at h
 have hr:=run_make (P:=P) w t e i z ht hi hz kl kc n c (by omega) (by omega) hb (by omega)
 simp only [Int.toNat_natCast] at hr
 exact hr
theorem make_ints (n:Nat) (hn:n≤1000000):∀ w:World,(Instr.makeSlice 67 (.int .i64 (n:Int)) (.int .i64 (n:Int))).run Tryz.prog w = .ok (.slice (some ⟨w.heap.size,0,none⟩) n n) (w.alloc (.cells (madeCells #[.slice none 0 0] (n * 1)) 68)):=by
 intro w
 obtain ⟨i0,hi,hz0,hz1,hz2⟩:=info_parts ints_info2
 have:=run_make_rowN (P:=Tryz.prog) 67 68 i0 _ Tryz.underlying67 hi hz0 .i64 .i64 n n (Nat.le_refl _) (by rw [hz2];omega) (by omega) w
 rw [hz1] at this
 exact this
theorem made_get (n:Nat) {d:Nat} (hd:d<n):(madeCells #[Value.slice none 0 0] (n * 1))[d]?=some (.slice none 0 0):=by
 have h:=made_flat (enc:=fun _:Unit=>[Value.slice none 0 0]) () (k:=1) (fun _=>rfl) (by omega) n
 have h2:(madeCells #[Value.slice none 0 0] (n * 1)).toList[d]?=some (.slice none 0 0):=by
  rw [show (madeCells #[Value.slice none 0 0] (n * 1)).toList=_ from h]
  rw [List.flatten_eq_flatMap]
  simp [hd]
 rwa [Array.getElem?_toList] at h2
structure HnI (w:World) (X KB n:Nat) (v1 v2 v3 v4:Value) (cs:Array Value) (vs vc:Value) (W:World):Prop where
 b:Below w.heap.size w W
 sp:Blk W w.heap.size 27 #[v1,v2,v3,v4]
 on:Blk W (w.heap.size+1) 119 cs
 res:Blk W (w.heap.size+1+1) 70 #[.slice none 0 0,.slice none 0 0,.slice none 0 0]
 x:Blk W X 70 #[.slice (some ⟨KB,0,none⟩) n n,vs,vc]
 xn:w.heap.size+1+1<X
theorem HnI.low {w:World} {X KB n:Nat} {v1 v2 v3 v4:Value} {cs:Array Value} {vs vc:Value} {W W':World} (h:HnI w X KB n v1 v2 v3 v4 cs vs vc W) (hb:Below W.heap.size W W'):HnI w X KB n v1 v2 v3 v4 cs vs vc W' :=
 ⟨below_step h.b hb,h.sp.below hb,h.on.below hb,h.res.below hb,h.x.below hb,h.xn⟩
theorem HnI.row {w:World} {X KB n:Nat} {v1 v2 v3 v4:Value} {cs:Array Value} {vs vc:Value} {W W':World} (h:HnI w X KB n v1 v2 v3 v4 cs vs vc W) {base m:Nat} {t:TypeId} {v:Value} {xs:List Value} (hr:W.ownsRow base t 1 v m xs) (hb:w.heap.size≤base) (t1:t≠27) (t2:t≠119) (t3:t≠70) {o:Obj} (hg:(W.alloc o).grownBy W' v.ownBlock):HnI w X KB n v1 v2 v3 v4 cs vs vc W':=by
 have hw:Below W.heap.size W (W.alloc o):=(Below.refl _ _).alloc (Nat.le_refl _) _
 have h2:=h.low hw
 have hr2:=row_later hr hw
 exact ⟨h2.b.grown hg h2.b.size (fun j e=>Nat.le_trans hb (row_ge hr2 e)),h2.sp.grown hg (row_not hr2 h2.sp t1.symm),h2.on.grown hg (row_not hr2 h2.on t2.symm),h2.res.grown hg (row_not hr2 h2.res t3.symm),h2.x.grown hg (row_not hr2 h2.x t3.symm),h2.xn⟩
theorem HnI.put {w:World} {X KB n:Nat} {v1 v2 v3 v4:Value} {cs:Array Value} {vs vc:Value} {W:World} (h:HnI w X KB n v1 v2 v3 v4 cs vs vc W) {ks:Array Value} (hk:Blk W KB 68 ks) (hb:w.heap.size≤KB) (d:Nat) (v:Value):HnI w X KB n v1 v2 v3 v4 cs vs vc (W.setCell ⟨KB,d,none⟩ v) :=
 ⟨h.b.setCell (p:=⟨KB,d,none⟩) hb v,h.sp.other _ _ (h.sp.ne hk (by decide)),h.on.other _ _ (h.on.ne hk (by decide)),h.res.other _ _ (h.res.ne hk (by decide)),h.x.other _ _ (h.x.ne hk (by decide)),h.xn⟩
theorem RwsI.mid {base n KB:Nat} {vals:Nat→Value} {G:Nat→List Int} {W W3:World} (h:RwsI base n KB vals G W) {d:Nat} (hd:d<n) {o:Obj} (hg:(W.alloc o).grownBy W3 (vals d).ownBlock):W3.cell? ⟨KB,d,none⟩=some (vals d)∧W3.frozen? ⟨KB,d,none⟩=false∧∃ ks,Blk W3 KB 68 ks:=by
 have hw:Below W.heap.size W (W.alloc o):=(Below.refl _ _).alloc (Nat.le_refl _) _
 have h2:=h.below hw
 obtain ⟨cs,h3,h4,h5⟩:=h2.blk
 have h6:=h3.grown hg (row_not (h2.rows d hd) h3 (by decide))
 exact ⟨by rw [h6.cell];exact h5 d hd,h6.frozen d,cs,h6⟩
structure HfI (w:World) (X KB n:Nat) (v1 v2 v3 v4:Value) (cs:Array Value) (vals:Nat→Value) (G:Nat→List Int) (H:Nat) (V oth:Value) (ol:List Int) (c:Nat) (W:World):Prop where
 hn:HnI w X KB n v1 v2 v3 v4 cs (if c=1 then V else oth) (if c=1 then oth else V) W
 rws:RwsI w.heap.size n KB vals G W
 lt:∀ d,d<n→∀ j,(vals d).ownBlock=some j→j<H
 kb:KB<H
 xh:X<H
 le:w.heap.size≤H
 own:W.ownsRow w.heap.size 3 1 oth ol.length (iCs ol)
 olt:∀ j,oth.ownBlock=some j→j<H
 up:H≤W.heap.size
theorem RwsI.keep {base n KB:Nat} {vals:Nat→Value} {G:Nat→List Int} {W W':World} {r:Option Nat} (h:RwsI base n KB vals G W) (hg:W.grownBy W' r) (hk:r≠some KB) (hr:∀ d,d<n→(vals d).ownBlock=none∨(vals d).ownBlock≠r):RwsI base n KB vals G W':=by
 obtain ⟨⟨cs,h1,h2,h3⟩,h4,h5,h6⟩:=h
 exact ⟨⟨cs,h1.grown hg hk,h2,h3⟩,fun d hd=>(h4 d hd).kept hg (hr d hd),h5,h6⟩
theorem RwsI.blocks {base n KB:Nat} {vals:Nat→Value} {G:Nat→List Int} {W:World} (h:RwsI base n KB vals G W):∀ d,d<n→∀ j,(vals d).ownBlock=some j→j<W.heap.size:=fun d hd j hj=>by
 rcases (h.rows d hd).2 with ⟨q,_⟩ | ⟨g2,cap2,cur2,q,_,hg2,_⟩
 ·rw [q] at hj;cases hj
 ·rw [q] at hj
  cases hj
  exact (Array.getElem?_eq_some_iff.1 hg2).1
theorem row_block {W:World} {base:Nat} {t:TypeId} {k n:Nat} {v:Value} {xs:List Value} (h:W.ownsRow base t k v n xs) {j:Nat} (hj:v.ownBlock=some j):j<W.heap.size:=by
 rcases h.2 with ⟨q,_⟩ | ⟨g2,cap2,cur2,q,_,hg2,_⟩
 ·rw [q] at hj;cases hj
 ·rw [q] at hj
  cases hj
  exact (Array.getElem?_eq_some_iff.1 hg2).1
theorem HfI.low {w:World} {X KB n:Nat} {v1 v2 v3 v4:Value} {cs:Array Value} {vals:Nat→Value} {G:Nat→List Int} {H:Nat} {V oth:Value} {ol:List Int} {c:Nat} {W W':World} (h:HfI w X KB n v1 v2 v3 v4 cs vals G H V oth ol c W) (hb:Below W.heap.size W W'):HfI w X KB n v1 v2 v3 v4 cs vals G H V oth ol c W' :=
 ⟨h.hn.low hb,h.rws.below hb,h.lt,h.kb,h.xh,h.le,row_later h.own hb,h.olt,Nat.le_trans h.up hb.size⟩
theorem HfI.push {w:World} {X KB n:Nat} {v1 v2 v3 v4:Value} {cs:Array Value} {vals:Nat→Value} {G:Nat→List Int} {H:Nat} {V oth:Value} {ol:List Int} {c:Nat} {W W3:World} (h:HfI w X KB n v1 v2 v3 v4 cs vals G H V oth ol c W) (hcc:c=1∨c=2) {l:List Int} (hr:W.ownsRow H 3 1 V l.length (iCs l)) {k:Int} {o:Obj} {g cap m:Nat} (hm:m=l.length+1)
  (hown:W3.ownsRow H 3 1 (.slice (some ⟨g,0,none⟩) m cap) m (iCs l++[.int .i64 k])) (hg:(W.alloc o).grownBy W3 V.ownBlock) :
  HfI w X KB n v1 v2 v3 v4 cs vals G H (.slice (some ⟨g,0,none⟩) m cap) oth ol c (W3.setCell ⟨X,c,none⟩ (.slice (some ⟨g,0,none⟩) m cap))∧(W3.setCell ⟨X,c,none⟩ (.slice (some ⟨g,0,none⟩) m cap)).ownsRow H 3 1 (.slice (some ⟨g,0,none⟩) m cap) (l++[k]).length (iCs (l++[k])):=by
 have hw:Below W.heap.size W (W.alloc o):=(Below.refl _ _).alloc (Nat.le_refl _) _
 have h2:=h.low hw
 have hr2:=row_later hr hw
 have hge:∀ j,V.ownBlock=some j→H≤j:=fun j e=>row_ge hr2 e
 have hn3:=h.hn.row hr h.le (by decide) (by decide) (by decide) hg
 have hrw3:RwsI w.heap.size n KB vals G W3:=h2.rws.keep hg (fun e=>by have:=hge _ e;have:=h.kb;omega) (fun d hd=>by
  cases hv:(vals d).ownBlock with
  | none=>exact .inl rfl
  | some j =>
   right
   intro e
   have h3:=h.lt d hd j hv
   have h4:=hge j e.symm
   omega)
 have ho3:W3.ownsRow w.heap.size 3 1 oth ol.length (iCs ol):=h2.own.kept hg (by
  cases hv:oth.ownBlock with
  | none=>exact .inl rfl
  | some j =>
   right
   intro e
   have h3:=h.olt j hv
   have h4:=hge j e.symm
   omega)
 have hgx:W3.grownBy (W3.setCell ⟨X,c,none⟩ (.slice (some ⟨g,0,none⟩) m cap)) (some X):=set_grown _ _ _ _
 have hxr:∀ {b:Nat} {v:Value} {q:Nat} {xs:List Value},W3.ownsRow b 3 1 v q xs→v.ownBlock≠some X:=fun hq=>row_not hq hn3.x (by decide)
 obtain ⟨ks,hks,_⟩:=hrw3.blk
 have hXK:X≠KB:=hn3.x.ne hks (by decide)
 have hxw:w.heap.size≤X:=by have:=hn3.xn;omega
 refine ⟨⟨⟨hn3.b.setCell (p:=⟨X,c,none⟩) hxw _,hn3.sp.other _ _ (hn3.sp.ne hn3.x (by decide)),hn3.on.other _ _ (hn3.on.ne hn3.x (by decide)),hn3.res.other _ _ (show w.heap.size+1+1≠X by have:=hn3.xn;omega),?_,hn3.xn⟩,hrw3.keep hgx (fun e=>hXK (Option.some.inj e)) (fun d hd => .inr (hxr (hrw3.rows d hd))),h.lt,h.kb,h.xh,h.le,ho3.kept hgx (.inr (hxr ho3)),h.olt,Nat.le_trans (Nat.le_trans h2.up hg.size) hgx.size⟩,?_⟩
 ·have h5:=hn3.x.set c (.slice (some ⟨g,0,none⟩) m cap)
  rcases hcc with rfl | rfl
  ·simp only [if_true] at h5 ⊢
   exact h5
  ·simp only [show ((2:Nat)=1)=False by simp,if_false] at h5 ⊢
   exact h5
 ·rw [List.length_append,List.length_singleton,← hm,iCs_snoc]
  exact hown.kept hgx (.inr (hxr hown))
theorem HfI.there {w:World} {X KB n:Nat} {v1 v2 v3 v4:Value} {cs:Array Value} {vals:Nat→Value} {G:Nat→List Int} {H:Nat} {V oth:Value} {ol:List Int} {c:Nat} {W W3:World} (h:HfI w X KB n v1 v2 v3 v4 cs vals G H V oth ol c W) {l:List Int} (hr:W.ownsRow H 3 1 V l.length (iCs l)) {o:Obj} (hg:(W.alloc o).grownBy W3 V.ownBlock):W3.cell? ⟨X,1,none⟩=some (if c=1 then V else oth)∧W3.cell? ⟨X,2,none⟩=some (if c=1 then oth else V)∧W3.frozen? ⟨X,1,none⟩=false∧W3.frozen? ⟨X,2,none⟩=false:=by
 have hn3:=h.hn.row hr h.le (by decide) (by decide) (by decide) hg
 exact ⟨hn3.x.cell 1,hn3.x.cell 2,hn3.x.frozen 1,hn3.x.frozen 2⟩
theorem own_form {W:World} {base:Nat} {t:TypeId} {k n:Nat} {v:Value} {xs:List Value} (h:W.ownsRow base t k v n xs):∃ a c,v = .slice a n c:=by
 rcases h.2 with ⟨e,e0⟩ | ⟨g,cap,cur,e,_⟩
 ·exact ⟨none,0,by rw [e,e0]⟩
 ·exact ⟨_,_,e⟩
def HdR (S:Sp) (f:Th→Int) (w:World) (e:Ending) (w':World):Prop:=∃ vk vs vc,e = .returned (.agg #[vk,vs,vc])∧(∀ W',(∀ i,w.heap.size≤i→i<w'.heap.size→W'.heap[i]?=w'.heap[i]?)→HdRd W' vk vs vc S f)∧Below w.heap.size w w'
theorem row_agree {W W':World} {base:Nat} {t:TypeId} {k n:Nat} {v:Value} {xs:List Value} (h:W.ownsRow base t k v n xs) (ha:∀ i,base≤i→i<W.heap.size→W'.heap[i]?=W.heap[i]?):W'.ownsRow base t k v n xs:=by
 obtain ⟨h1,h2 | ⟨g,cap,cur,e1,e2,e3,e4⟩⟩:=h
 ·exact ⟨h1,.inl h2⟩
 ·exact ⟨h1,.inr ⟨g,cap,cur,e1,e2,(ha g e2 (Array.getElem?_eq_some_iff.1 e3).1).trans e3,e4⟩⟩
theorem RwsI.agree {base n KB:Nat} {vals:Nat→Value} {G:Nat→List Int} {W W':World} (h:RwsI base n KB vals G W) (ha:∀ i,base≤i→i<W.heap.size→W'.heap[i]?=W.heap[i]?):RwsI base n KB vals G W':=by
 obtain ⟨⟨cs,h1,h2,h3⟩,h4,h5,h6⟩:=h
 exact ⟨⟨cs,(ha KB h6 h1.lt).trans h1,h2,h3⟩,fun d hd=>row_agree (h4 d hd) ha,h5,h6⟩
set_option maxRecDepth 100000 in
set_option maxHeartbeats 6400000 in
theorem hand31_any (v1 v2 v3 v4:Value) (S:Sp) (hc:(checkP S).2=0) (fp:Nat→Value) (cs:Array Value) (f:Th→Int) (hon:OnI f cs) (w:World) (hsp:SpRd w v1 v2 v3 v4 fp S) :
  Calls Tryz.prog 54 #[.agg #[v1,v2,v3,v4],.agg cs] w (HdR S f w):=by
 obtain ⟨l1,_,l3,l4⟩:=sp_lens hc
 obtain ⟨⟨a1,c1,rfl⟩,_,⟨a3,c3,rfl⟩,⟨a4,c4,rfl⟩⟩:=hsp.forms
 obtain ⟨j0,hj0,jz0,jz1,jz2⟩:=info_parts int64_info
 have hmk:=make_ints S.ds.length (by omega)
 have HON:=Lib.hid hon
 have HSP:=Lib.hid hsp
 obtain ⟨n,hn⟩:∃ n,S.ds.length=n:=⟨_,rfl⟩
 rw [hn] at hmk l1
 have HN:=Lib.hid hn
 have HSZ:=Lib.hid hon.size
 clear hon hsp hc hn
 go_enter Tryz.func54,Tryz.ntmps54
 go_upto_region 1 with fail
 rw [HN.out]
 have b0:=((Blk.new w 27 #[.slice a1 n c1,v2,.slice a3 S.ss.length c3,.slice a4 S.cs.length c4]).alloc (.cells cs 119)).alloc (.cells #[.slice none 0 0,.slice none 0 0,.slice none 0 0] 70)
 have b1:=(Blk.new (w.alloc (.cells #[.slice a1 n c1,v2,.slice a3 S.ss.length c3,.slice a4 S.cs.length c4] 27)) 119 cs).alloc (.cells #[.slice none 0 0,.slice none 0 0,.slice none 0 0] 70)
 have b2:=Blk.new ((w.alloc (.cells #[.slice a1 n c1,v2,.slice a3 S.ss.length c3,.slice a4 S.cs.length c4] 27)).alloc (.cells cs 119)) 70 #[.slice none 0 0,.slice none 0 0,.slice none 0 0]
 rw [World.size_alloc] at b1
 rw [World.size_alloc,World.size_alloc] at b2
 have hb:=(below_two w (.cells #[.slice a1 n c1,v2,.slice a3 S.ss.length c3,.slice a4 S.cs.length c4] 27) (.cells cs 119)).alloc (by simp;omega) (.cells #[.slice none 0 0,.slice none 0 0,.slice none 0 0] 70)
 have hz:(((w.alloc (.cells #[.slice a1 n c1,v2,.slice a3 S.ss.length c3,.slice a4 S.cs.length c4] 27)).alloc (.cells cs 119)).alloc (.cells #[.slice none 0 0,.slice none 0 0,.slice none 0 0] 70)).heap.size=w.heap.size+3:=by simp
 have B0:=Lib.hid b0
 have B1:=Lib.hid b1
 have B2:=Lib.hid b2
 have HB:=Lib.hid hb
 have HZ:=Lib.hid hz
 clear b0 b1 b2 hb hz
 generalize ((w.alloc (.cells #[.slice a1 n c1,v2,.slice a3 S.ss.length c3,.slice a4 S.cs.length c4] 27)).alloc (.cells cs 119)).alloc (.cells #[.slice none 0 0,.slice none 0 0,.slice none 0 0] 70)=W at *
 obtain ⟨s0,s1,s2,s3⟩:=B0.out.four
 go_upto_region 2 with fail
 have HI0:=Lib.hid (show HnI w (W.heap.size+1) W.heap.size n (.slice a1 n c1) v2 (.slice a3 S.ss.length c3) (.slice a4 S.cs.length c4) cs (.slice none 0 0) (.slice none 0 0) ((W.alloc (.cells (madeCells #[Value.slice none 0 0] n) 68)).alloc (.cells #[.slice (some ⟨W.heap.size,0,none⟩) n n,.slice none 0 0,.slice none 0 0] 70)) from
  ⟨below_step HB.out (below_two W _ _),(B0.out.alloc _).alloc _,(B1.out.alloc _).alloc _,(B2.out.alloc _).alloc _,by have:=Blk.new (W.alloc (.cells (madeCells #[Value.slice none 0 0] n) 68)) 70 #[.slice (some ⟨W.heap.size,0,none⟩) n n,.slice none 0 0,.slice none 0 0];rwa [World.size_alloc] at this,by rw [HZ.out];omega⟩)
 have HR0:=Lib.hid (show RwsI w.heap.size n W.heap.size (fun _ => .slice none 0 0) (rowG f 0 0) ((W.alloc (.cells (madeCells #[Value.slice none 0 0] n) 68)).alloc (.cells #[.slice (some ⟨W.heap.size,0,none⟩) n n,.slice none 0 0,.slice none 0 0] 70)) from by
  rw [rowG_zero]
  exact RwsI.start ((Blk.new W 68 _).alloc _) (by rw [size_madeCells]) (fun d hd=>by have:=made_get n hd;rwa [Nat.mul_one] at this) (by rw [HZ.out];omega))
 obtain ⟨KB,hKB⟩:∃ KB,W.heap.size=KB:=⟨_,rfl⟩
 obtain ⟨X,hX⟩:∃ X,W.heap.size+1=X:=⟨_,rfl⟩
 rw [hX] at HI0 ⊢
 rw [hKB] at HI0 HR0 ⊢
 have hkb:w.heap.size≤KB:=by rw [← hKB,HZ.out];omega
 generalize (W.alloc (.cells (madeCells #[Value.slice none 0 0] n) 68)).alloc (.cells #[.slice (some ⟨KB,0,none⟩) n n,.slice none 0 0,.slice none 0 0] 70)=W2 at *
 clear B0 B1 B2 HB HZ s0 s1 s2 s3 hKB hX hmk
 go_wp2
 go_loopw [6] (fun x wr=>∃ (d:Nat) (vals:Nat→Value),d≤n∧x = .int .i64 d∧RowKit.Hid (HnI w X KB n (.slice a1 n c1) v2 (.slice a3 S.ss.length c3) (.slice a4 S.cs.length c4) cs (.slice none 0 0) (.slice none 0 0) wr)∧RowKit.Hid (RwsI w.heap.size n KB vals (rowG f d 0) wr)) (fun x _=>n-(intOf x).toNat)
 case atStart=>exact ⟨0,_,Nat.zero_le _,rfl,HI0,HR0⟩
 clear HI0 HR0
 obtain ⟨d,vals,hd,rfl,hI,hR⟩:=hrel
 obtain ⟨s0,s1,s2,s3⟩:=hI.out.sp.four
 by_cases hdn:d<n
 ·have hd2:(d:Int)<(n:Int):=by omega
  have hd6:(d:Int)<6:=by omega
  rename World=>wo
  go_wp2
  go_loopw [7] (fun x wr=>∃ (k:Nat) (vals:Nat→Value),k≤128∧x = .int .i64 k∧RowKit.Hid (HnI w X KB n (.slice a1 n c1) v2 (.slice a3 S.ss.length c3) (.slice a4 S.cs.length c4) cs (.slice none 0 0) (.slice none 0 0) wr)∧RowKit.Hid (RwsI w.heap.size n KB vals (rowG f d k) wr)) (fun x _=>128-(intOf x).toNat)
  case atStart=>exact ⟨0,_,by omega,rfl,hI,hR⟩
  clear hI hR s0 s1 s2 s3
  obtain ⟨k,vals,hk,rfl,hI,hR⟩:=hrel
  obtain ⟨s0,s1,s2,s3⟩:=hI.out.sp.four
  by_cases hk1:k<128
  ·have hk2:(k:Int)≤127:=by omega
   have hk3:(k:Int)<128:=by omega
   have hon:=HON.out.val _ _ (onIx_key (d:=d) (n:=k) (by omega) (by omega))
   by_cases hf:f (1,(d:Int),(k:Int))=1
   ·have o0:wr.cell? ⟨w.heap.size+1,d * 128+k,none⟩=some (.bool true):=by
     rw [hI.out.on.cell,hon]
     unfold onCell
     rw [if_neg (show ¬ (1:Int)=4 by decide),decide_eq_true hf]
    have HF:=Lib.hid (rowG_yes hf)
    have x0:wr.cell? ⟨X,0,none⟩=some (.slice (some ⟨KB,0,none⟩) n n):=hI.out.x.cell 0
    have x1:=hR.out.cell hdn
    have y0:=cell_alloc x0
    have y1:=cell_alloc x1
    have HRW:=Lib.hid (hR.out.rows d hdn)
    have hlen:=rowG_len f d k hk d
    have hsz:=hI.out.b.size
    have HWA:Below wr.heap.size wr (wr.alloc (.cells #[.int .i64 k] 3)):=(Below.refl _ _).alloc (Nat.le_refl _) _
    clear hf hon
    go_wp2_with fail
    go_region_law ((refine step_append_lies _ rfl _ _ 68 rfl w.heap.size 3 j0 _ 1 8 Tryz.underlying68 hj0 jz0 jz1 jz2 rfl (by omega) _ _ _ rfl (HRW.out.alloc _) ⟨wr.heap.size,0,none⟩ 1 1 [.int .i64 k] rfl rfl (World.news_of_block (cs:=#[.int .i64 k]) (t:=3) (fr:=(0,0)) (heap_alloc_new wr _)) (by simp [Value.oneCell']) (by omega) (by unfold maxLen;omega) (by omega) (by simp;omega) (wr.heap.size+1) (by simp) ?_;intro gg cap3 w3 hown3 hgrow hat3 hlt3;have hg':(wr.alloc (.cells #[.int .i64 k] 3)).grownBy w3 (vals d).ownBlock:=⟨hgrow.os,hgrow.tape,hgrow.output,hgrow.size,hgrow.block⟩;obtain ⟨k1,k2,ks,k3⟩:=hR.out.mid hdn hg';have HH3:=hI.out.row HRW.out (Nat.le_refl _) (by decide) (by decide) (by decide) hg';have k4:w3.cell? ⟨X,0,none⟩=some (.slice (some ⟨KB,0,none⟩) n n):=HH3.x.cell 0;have HP3:=Lib.hid (hR.out.push HWA hdn hown3 rfl hg' (by rw [World.size_alloc];exact hat3));have HN3:=Lib.hid (HH3.put k3 hkb d (.slice (some ⟨gg,0,none⟩) ((rowG f d k d).length+1) cap3))))
    all_goals (rw [← HF.out] at HP3;clear hown3 hgrow hat3 hlt3 hg' k1 k2 k3 k4 HH3 x0 x1 y0 y1 o0 s0 s1 s2 s3)
    all_goals go_wp2
    all_goals go_roundw
    all_goals first | exact ⟨k+1,_,by omega,by go_num,HN3,HP3⟩ | (simp [intOf];omega)
   ·have hon:=HON.out.val _ _ (onIx_key (d:=d) (n:=k) (by omega) (by omega))
    have o0:wr.cell? ⟨w.heap.size+1,d * 128+k,none⟩=some (.bool false):=by
     rw [hI.out.on.cell,hon]
     unfold onCell
     rw [if_neg (show ¬ (1:Int)=4 by decide),decide_eq_false hf]
    have HP3:RowKit.Hid (RwsI w.heap.size n KB vals (rowG f d (k+1)) wr):=by rw [rowG_no hf];exact hR
    clear hf hon
    go_wp2
    go_roundw
    case rel=>exact ⟨k+1,_,by omega,by go_num,hI,HP3⟩
    case measure=>simp [intOf];omega
  ·have hk2:¬ (k:Int)≤127:=by omega
   have hk8:k=128:=by omega
   have HP3:RowKit.Hid (RwsI w.heap.size n KB vals (rowG f (d+1) 0) wr):=by rw [← rowG_next,← hk8];exact hR
   clear hk8
   go_wp2
   go_roundw
   case rel=>exact ⟨d+1,_,by omega,by go_num,hI,HP3⟩
   case measure=>simp [intOf];omega
 ·have hd2:¬ (d:Int)<(n:Int):=by omega
  have hdn2:d=n:=by omega
  have HR1:RowKit.Hid (RwsI w.heap.size n KB vals (rowG f n 0) wr):=by rw [show rowG f n 0=rowG f d 0 by rw [hdn2]];exact hR
  have HF1:=Lib.hid (show HfI w X KB n (.slice a1 n c1) v2 (.slice a3 S.ss.length c3) (.slice a4 S.cs.length c4) cs vals (rowG f n 0) wr.heap.size (.slice none 0 0) (.slice none 0 0) [] 1 wr from ⟨hI.out,HR1.out,HR1.out.blocks,HR1.out.lt,hI.out.x.lt,hI.out.b.size,World.ownsRow_nil _ _ _ _,fun j e=>(by cases e),Nat.le_refl _⟩)
  have HS1:=Lib.hid (show wr.ownsRow wr.heap.size 3 1 (.slice none 0 0) (onL f 2 0).length (iCs (onL f 2 0)) from World.ownsRow_nil _ _ _ _)
  clear hR hdn2 hI HR1
  rename World=>w1
  obtain ⟨H1,hH1⟩:∃ H1,w1.heap.size=H1:=⟨_,rfl⟩
  rw [hH1] at HF1 HS1
  clear hH1
  go_wp2
  go_loopw [8] (fun x wr=>∃ (i:Nat) (V:Value),i≤S.ss.length∧x = .int .i64 i∧RowKit.Hid (HfI w X KB n (.slice a1 n c1) v2 (.slice a3 S.ss.length c3) (.slice a4 S.cs.length c4) cs vals (rowG f n 0) H1 V (.slice none 0 0) [] 1 wr)∧RowKit.Hid (wr.ownsRow H1 3 1 V (onL f 2 i).length (iCs (onL f 2 i)))) (fun x _=>S.ss.length-(intOf x).toNat)
  case atStart=>exact ⟨0,_,Nat.zero_le _,rfl,HF1,HS1⟩
  clear HF1 HS1 s0 s1 s2 s3
  obtain ⟨i,V,hi,rfl,hI,hR⟩:=hrel
  obtain ⟨s0,s1,s2,s3⟩:=hI.out.hn.sp.four
  by_cases his:i<S.ss.length
  ·have hi2:(i:Int)<(S.ss.length:Int):=by omega
   have hi3:(i:Int)<80:=by omega
   have hon:=HON.out.val _ _ (onIx_stop (n:=i) (by omega))
   have hlen:=len_onL f 2 i
   by_cases hf:f (2,0,(i:Int))=1
   ·have o0:wr.cell? ⟨w.heap.size+1,768+i,none⟩=some (.bool true):=by
     rw [hI.out.hn.on.cell,hon]
     unfold onCell
     rw [if_neg (show ¬ (2:Int)=4 by decide),decide_eq_true hf]
    have HF:=Lib.hid (show onL f 2 (i+1)=onL f 2 i++[(i:Int)] by rw [onL_succ,if_pos hf])
    have x1:wr.cell? ⟨X,1,none⟩=some V:=hI.out.hn.x.cell 1
    have hsz:=hI.out.hn.b.size
    have hH:=hI.out.up
    have y1:=cell_alloc x1
    clear hf hon
    go_wp2_with (at_builtin;refine wpList_append_lies _ rfl _ _ 68 rfl H1 3 j0 _ 1 8 Tryz.underlying68 hj0 jz0 jz1 jz2 rfl (by omega) _ _ _ rfl (hR.out.alloc _) ⟨wr.heap.size,0,none⟩ 1 1 [.int .i64 i] rfl rfl (World.news_of_block (cs:=#[.int .i64 i]) (t:=3) (fr:=(0,0)) (heap_alloc_new wr _)) (by simp [Value.oneCell']) (by omega) (by unfold maxLen;omega) (by omega) (by simp;omega) (wr.heap.size+1) (by simp) ?_;intro gg cap w3 hown3 hgrow hat3 hlt3;obtain ⟨k1,k2,k3,k4⟩:=hI.out.there hR.out hgrow;have HP3:=Lib.hid (hI.out.push (.inl rfl) hR.out rfl hown3 hgrow))
    go_wp2
    go_roundw
    case rel=>exact ⟨i+1,_,by omega,by go_num,Lib.hid HP3.out.1,by rw [HF.out];exact Lib.hid HP3.out.2⟩
    case measure=>simp [intOf];omega
   ·have o0:wr.cell? ⟨w.heap.size+1,768+i,none⟩=some (.bool false):=by
     rw [hI.out.hn.on.cell,hon]
     unfold onCell
     rw [if_neg (show ¬ (2:Int)=4 by decide),decide_eq_false hf]
    have HF:=Lib.hid (show onL f 2 (i+1)=onL f 2 i by rw [onL_succ,if_neg hf,List.append_nil])
    clear hf hon
    go_wp2
    go_roundw
    case rel=>exact ⟨i+1,_,by omega,by go_num,hI,by rw [HF.out];exact hR⟩
    case measure=>simp [intOf];omega
  ·have hi2:¬ (i:Int)<(S.ss.length:Int):=by omega
   have hie:i=S.ss.length:=by omega
   have HR2:RowKit.Hid (wr.ownsRow H1 3 1 V (onL f 2 S.ss.length).length (iCs (onL f 2 S.ss.length))):=by rw [show onL f 2 S.ss.length=onL f 2 i by rw [hie]];exact hR
   have HF1:=Lib.hid (show HfI w X KB n (.slice a1 n c1) v2 (.slice a3 S.ss.length c3) (.slice a4 S.cs.length c4) cs vals (rowG f n 0) wr.heap.size (.slice none 0 0) V (onL f 2 S.ss.length) 2 wr from ⟨hI.out.hn,hI.out.rws,hI.out.rws.blocks,hI.out.rws.lt,hI.out.hn.x.lt,hI.out.hn.b.size,row_base HR2.out hI.out.le,fun j e=>row_block HR2.out e,Nat.le_refl _⟩)
   have HS1:=Lib.hid (show wr.ownsRow wr.heap.size 3 1 (.slice none 0 0) (onL f 3 0).length (iCs (onL f 3 0)) from World.ownsRow_nil _ _ _ _)
   clear hR hie hI HR2
   rename Value=>Vs
   rename World=>w2
   obtain ⟨H2,hH2⟩:∃ H2,w2.heap.size=H2:=⟨_,rfl⟩
   rw [hH2] at HF1 HS1
   clear hH2
   go_wp2
   go_loopw [9] (fun x wr=>∃ (i:Nat) (V:Value),i≤S.cs.length∧x = .int .i64 i∧RowKit.Hid (HfI w X KB n (.slice a1 n c1) v2 (.slice a3 S.ss.length c3) (.slice a4 S.cs.length c4) cs vals (rowG f n 0) H2 V Vs (onL f 2 S.ss.length) 2 wr)∧RowKit.Hid (wr.ownsRow H2 3 1 V (onL f 3 i).length (iCs (onL f 3 i)))) (fun x _=>S.cs.length-(intOf x).toNat)
   case atStart=>exact ⟨0,_,Nat.zero_le _,rfl,HF1,HS1⟩
   clear HF1 HS1 s0 s1 s2 s3
   obtain ⟨i,V,hi,rfl,hI,hR⟩:=hrel
   obtain ⟨s0,s1,s2,s3⟩:=hI.out.hn.sp.four
   by_cases his:i<S.cs.length
   ·have hi2:(i:Int)<(S.cs.length:Int):=by omega
    have hi3:(i:Int)<24:=by omega
    have hon:=HON.out.val _ _ (onIx_coupler (n:=i) (by omega))
    have hlen:=len_onL f 3 i
    by_cases hf:f (3,0,(i:Int))=1
    ·have o0:wr.cell? ⟨w.heap.size+1,848+i,none⟩=some (.bool true):=by
      rw [hI.out.hn.on.cell,hon]
      unfold onCell
      rw [if_neg (show ¬ (3:Int)=4 by decide),decide_eq_true hf]
     have HF:=Lib.hid (show onL f 3 (i+1)=onL f 3 i++[(i:Int)] by rw [onL_succ,if_pos hf])
     have x1:wr.cell? ⟨X,2,none⟩=some V:=hI.out.hn.x.cell 2
     have hsz:=hI.out.hn.b.size
     have hH:=hI.out.up
     have y1:=cell_alloc x1
     clear hf hon
     go_wp2_with (at_builtin;refine wpList_append_lies _ rfl _ _ 68 rfl H2 3 j0 _ 1 8 Tryz.underlying68 hj0 jz0 jz1 jz2 rfl (by omega) _ _ _ rfl (hR.out.alloc _) ⟨wr.heap.size,0,none⟩ 1 1 [.int .i64 i] rfl rfl (World.news_of_block (cs:=#[.int .i64 i]) (t:=3) (fr:=(0,0)) (heap_alloc_new wr _)) (by simp [Value.oneCell']) (by omega) (by unfold maxLen;omega) (by omega) (by simp;omega) (wr.heap.size+1) (by simp) ?_;intro gg cap w3 hown3 hgrow hat3 hlt3;obtain ⟨k1,k2,k3,k4⟩:=hI.out.there hR.out hgrow;have HP3:=Lib.hid (hI.out.push (.inr rfl) hR.out rfl hown3 hgrow))
     go_wp2
     go_roundw
     case rel=>exact ⟨i+1,_,by omega,by go_num,Lib.hid HP3.out.1,by rw [HF.out];exact Lib.hid HP3.out.2⟩
     case measure=>simp [intOf];omega
    ·have o0:wr.cell? ⟨w.heap.size+1,848+i,none⟩=some (.bool false):=by
      rw [hI.out.hn.on.cell,hon]
      unfold onCell
      rw [if_neg (show ¬ (3:Int)=4 by decide),decide_eq_false hf]
     have HF:=Lib.hid (show onL f 3 (i+1)=onL f 3 i by rw [onL_succ,if_neg hf,List.append_nil])
     clear hf hon
     go_wp2
     go_roundw
     case rel=>exact ⟨i+1,_,by omega,by go_num,hI,by rw [HF.out];exact hR⟩
     case measure=>simp [intOf];omega
   ·have hi2:¬ (i:Int)<(S.cs.length:Int):=by omega
    have hie:i=S.cs.length:=by omega
    have HR2:RowKit.Hid (wr.ownsRow H2 3 1 V (onL f 3 S.cs.length).length (iCs (onL f 3 S.cs.length))):=by rw [show onL f 3 S.cs.length=onL f 3 i by rw [hie]];exact hR
    have z0:wr.cell? ⟨X,0,none⟩=some (.slice (some ⟨KB,0,none⟩) n n):=hI.out.hn.x.cell 0
    have z1:wr.cell? ⟨X,1,none⟩=some Vs:=hI.out.hn.x.cell 1
    have z2:wr.cell? ⟨X,2,none⟩=some V:=hI.out.hn.x.cell 2
    have r0:=hI.out.hn.res.cell 0
    have r1:=hI.out.hn.res.cell 1
    have r2:=hI.out.hn.res.cell 2
    have f0:=hI.out.hn.res.frozen 0
    have f1:=hI.out.hn.res.frozen 1
    have f2:=hI.out.hn.res.frozen 2
    clear hie hR
    obtain ⟨av,cv,ev⟩:=own_form HR2.out
    obtain ⟨as',cs',es⟩:=own_form hI.out.own
    subst ev
    subst es
    have HI:=Lib.hid (show HnI w X KB n (.slice a1 n c1) v2 (.slice a3 S.ss.length c3) (.slice a4 S.cs.length c4) cs (.slice as' (onL f 2 S.ss.length).length cs') (.slice av (onL f 3 S.cs.length).length cv) wr from hI.out.hn)
    have HRW:=Lib.hid hI.out.rws
    have HOW:=Lib.hid hI.out.own
    have HH2:=Lib.hid (show w.heap.size+1+1≤H2 by have:=hI.out.xh;have:=hI.out.hn.xn;omega)
    clear hI
    have HG:=Lib.hid (((set_grown wr (w.heap.size+1+1) 0 (.slice (some ⟨KB,0,none⟩) n n)).trans (set_grown _ (w.heap.size+1+1) 1 (.slice as' (onL f 2 S.ss.length).length cs'))).trans (set_grown _ (w.heap.size+1+1) 2 (.slice av (onL f 3 S.cs.length).length cv)))
    have HB9:=Lib.hid (show Blk (((wr.setCell ⟨w.heap.size+1+1,0,none⟩ (.slice (some ⟨KB,0,none⟩) n n)).setCell ⟨w.heap.size+1+1,1,none⟩ (.slice as' (onL f 2 S.ss.length).length cs')).setCell ⟨w.heap.size+1+1,2,none⟩ (.slice av (onL f 3 S.cs.length).length cv)) (w.heap.size+1+1) 70 #[.slice (some ⟨KB,0,none⟩) n n,.slice as' (onL f 2 S.ss.length).length cs',.slice av (onL f 3 S.cs.length).length cv] from ((HI.out.res.set 0 _).set 1 _).set 2 _)
    go_wp2
    refine bodyPost_ret (v:=.agg #[.slice (some ⟨KB,0,none⟩) n n,.slice as' (onL f 2 S.ss.length).length cs',.slice av (onL f 3 S.cs.length).length cv]) (results_cell_row rfl _ _ (w.heap.size+1+1) 70 _ (0,0) _ rfl HB9.out Tryz.underlying70 rfl (by kernel_rfl)) rfl ?_
    generalize ((wr.setCell ⟨w.heap.size+1+1,0,none⟩ (.slice (some ⟨KB,0,none⟩) n n)).setCell ⟨w.heap.size+1+1,1,none⟩ (.slice as' (onL f 2 S.ss.length).length cs')).setCell ⟨w.heap.size+1+1,2,none⟩ (.slice av (onL f 3 S.cs.length).length cv)=W9 at *
    have hres:=HI.out.res
    obtain ⟨ks,hks,_⟩:=HRW.out.blk
    have hrw9:=HRW.out.keep HG.out (fun e=>(hks.ne hres (by decide)) (Option.some.inj e).symm) (fun d hd => .inr (row_not (HRW.out.rows d hd) hres (by decide)))
    have h2':=HOW.out.kept HG.out (.inr (row_not HOW.out hres (by decide)))
    have hle:w.heap.size≤H2:=Nat.le_trans (Nat.le_succ_of_le (Nat.le_succ _)) HH2.out
    have h3':=row_base (HR2.out.kept HG.out (.inr (row_not HR2.out hres (by decide)))) hle
    refine ⟨_,_,_,rfl,fun W' ha=>⟨⟨vals,?_,fun d hd=>?_⟩,?_,?_⟩,HI.out.b.grown HG.out HI.out.b.size (fun j e=>by cases e;omega)⟩
    ·rw [HN.out];exact (hrw9.agree ha).ard n
    ·rw [HN.out] at hd
     have:=(hrw9.agree ha).rows d hd
     rw [rowG_full hd] at this
     exact ARd.of_ints this
    ·exact ARd.of_ints (row_agree h2' ha)
    ·exact ARd.of_ints (row_agree h3' ha)
end Go.Proofs.YthhfmppealmblaaGreatDoor
