/-
  A part of the proof: AL4, AH3, AH4, AH5, A7, AH6, AH7, AH8, AI1.
-/
import Derived.Test.YthhfmppealmblaaGreatDoorK07
import Derived.Test.YthhfmppealmblaaGreatDoorK08
import Derived.Deep.MidRow
import Derived.Test.YthhfmppealmblaaGreatDoorN11
import Derived.Test.YthhfmppealmblaaGreatDoorN06
namespace Go.Proofs.YthhfmppealmblaaGreatDoor
open Go.RowKit
theorem addQ_len {S:Sp} {m q:List Pl} (h:q.length≤m.length) (x:Pl):(addQ S m q x).length≤(addM S m x).length:=by
 by_cases c:keyOk S x=true∧x ∉ m
 ·rw [addM_yes c.1 c.2,addQ_yes c.1 c.2,List.length_append,List.length_append]
  omega
 ·have c2:keyOk S x=false∨x∈m:=by
   cases e:keyOk S x with
   | false=>exact .inl rfl
   | true=>exact .inr (Classical.byContradiction fun z=>c ⟨e,z⟩)
  rw [addM_no c2,addQ_no c2]
  exact h
theorem AcM.row {w:World} {B:Nat} {m q:List Pl} {W W':World} (h:AcM w B m q W) {base k:Nat} {v:Value} {xs:List Value} {o:Obj} (hr:W.ownsRow base 3 1 v k xs) (hb:w.heap.size≤base) (hg:(W.alloc o).grownBy W' v.ownBlock):AcM w B m q W':=by
 have h1:=h.low ((Below.refl _ W).alloc (Nat.le_refl _) o)
 rcases hr.2 with ⟨rfl,_⟩ | ⟨g,cap,cur,rfl,h2,h3,_⟩
 ·exact h1.low ⟨hg.os,hg.tape,hg.output,hg.size,fun i hi=>hg.block i hi (by simp [Value.ownBlock])⟩
 ·have hB:Blk (W.alloc o) g 3 cur:=(show Blk W g 3 cur from h3).alloc o
  exact h1.grown hB (by decide) (by decide) (by decide) (by decide) (Nat.le_trans hb h2) hg
theorem RwsI.adf {base n KB X:Nat} {vals:Nat→Value} {G:Nat→List Int} {W W':World} (h:RwsI base n KB vals G W) (hf:AdF X W W') (hx:∀ cs,¬ Blk W X 68 cs∧¬ Blk W X 3 cs):RwsI base n KB vals G W':=by
 obtain ⟨⟨cs,h1,h2,h3⟩,hr,ha,hk⟩:=h
 refine ⟨⟨cs,hf.2 _ _ _ h1 (by decide) (fun e=>by rw [e] at h1;exact (hx cs).1 h1),h2,h3⟩,fun d hd=>?_,ha,hk⟩
 obtain ⟨e1,⟨e2,e3⟩ | ⟨g,cap,cur,e2,e4,e5,e6⟩⟩:=hr d hd
 ·exact ⟨e1,.inl ⟨e2,e3⟩⟩
 ·exact ⟨e1,.inr ⟨g,cap,cur,e2,e4,hf.2 _ _ _ (show Blk W g 3 cur from e5) (by decide) (fun e=>by rw [e] at e5;exact (hx cur).2 e5),e6⟩⟩
theorem AcM.noX {w:World} {B:Nat} {m q:List Pl} {W:World} (h:AcM w B m q W) (cs:Array Value):¬ Blk W (w.heap.size+1+1+1) 68 cs∧¬ Blk W (w.heap.size+1+1+1) 3 cs:=by
 obtain ⟨v,h1,_⟩:=h.x4
 exact ⟨fun hb=>hb.ne h1 (by decide) rfl,fun hb=>hb.ne h1 (by decide) rfl⟩
theorem AcM.pop {w:World} {B:Nat} {m q:List Pl} {x:Pl} {W:World} (h:AcM w B m (x :: q) W):∃ g o cap,W.cell? ⟨w.heap.size+1+1+1,0,none⟩=some (.slice (some ⟨g,o,none⟩) (q.length+1) (cap+1))∧W.frozen? ⟨w.heap.size+1+1+1,0,none⟩=false∧W.cell? ⟨g,o,none⟩=some (.int .i64 x.1)∧W.cell? ⟨g,o+1,none⟩=some (.int .i64 x.2)∧q.length≤cap ∧
  ∀ W1 o2,Below W.heap.size W W1→(o2=o+2∨cap=0∧o2=o)→AcM w B m q (W1.setCell ⟨w.heap.size+1+1+1,0,none⟩ (.slice (some ⟨g,o2,none⟩) q.length cap)):=by
 obtain ⟨v,h1,h2⟩:=h.x4
 obtain ⟨g,o,cap,rfl,t1,t2,t3,t4⟩:=h2.tail
 refine ⟨g,o,cap,h1.cell 0,h1.frozen 0,t1,t2,t3,fun W1 o2 hb ho=>?_⟩
 have h3:=h.low hb
 have t5:QuI W (w.heap.size+1+1+1+1) (.slice (some ⟨g,o2,none⟩) q.length cap) q:=by
  rcases ho with rfl | ⟨rfl,rfl⟩
  ·exact t4
  ·have hq0:q=[]:=List.length_eq_zero_iff.1 (Nat.le_zero.1 t3)
   subst hq0
   rcases t4 with ⟨e,_⟩ | ⟨g2,o3,cap2,cs2,e,h5,h6,h7,h8,h9,h10⟩
   ·cases e
   ·cases e
    exact .inr ⟨g,o2,0,cs2,rfl,h5,h6,h7,h8,by omega,fun j u hj=>by cases hj⟩
 have hg:W1.grownBy (W1.setCell ⟨w.heap.size+1+1+1,0,none⟩ (.slice (some ⟨g,o2,none⟩) q.length cap)) (some (w.heap.size+1+1+1)):=set_grown _ _ _ _
 have h14:=h1.below hb
 refine ⟨h3.b.setCell (p:=⟨w.heap.size+1+1+1,0,none⟩) (by show w.heap.size≤w.heap.size+1+1+1;omega) _,h3.x1.other _ _ (by show w.heap.size≠w.heap.size+1+1+1;omega),h3.mp.kept hg (by simp),h3.x3.other _ _ (by show w.heap.size+1+1≠w.heap.size+1+1+1;omega),_,h14.set 0 _,(t5.below hb).kept hg ?_⟩
 rcases t5 with ⟨e,_⟩ | ⟨g2,o2,cap2,cs2,e,h5,_⟩
 ·cases e
 ·cases e
  refine .inr (fun e=>?_)
  simp only [Value.ownBlock,Option.some.injEq] at e
  exact (h5.ne h1 (by decide)) e
theorem AcM.start (w:World) (B:Nat):AcM w B [] [] ((((w.alloc (.cells #[.pointer (some ⟨B,0,none⟩)] 130)).alloc (.map #[] 0)).alloc (.cells #[.map (some (w.heap.size+1))] 178)).alloc (.cells #[.slice none 0 0] 230)):=by
 refine ⟨((((Below.refl _ w).alloc (Nat.le_refl _) _).alloc (by simp) _).alloc (by simp;omega) _).alloc (by simp;omega) _,(((Blk.new w 130 _).alloc _).alloc _).alloc _,?_,?_,_,?_,QuI.nil _ _⟩
 ·have h:=Mp.made (ek:=ekL) (w.alloc (.cells #[.pointer (some ⟨B,0,none⟩)] 130))
  rw [World.size_alloc] at h
  exact h.below (((Below.refl _ _).alloc (Nat.le_refl _) _).alloc (by simp) _)
 ·have h:=Blk.new ((w.alloc (.cells #[.pointer (some ⟨B,0,none⟩)] 130)).alloc (.map #[] 0)) 178 #[.map (some (w.heap.size+1))]
  rw [World.size_alloc,World.size_alloc] at h
  exact h.alloc _
 ·have h:=Blk.new (((w.alloc (.cells #[.pointer (some ⟨B,0,none⟩)] 130)).alloc (.map #[] 0)).alloc (.cells #[.map (some (w.heap.size+1))] 178)) 230 #[.slice none 0 0]
  rw [World.size_alloc,World.size_alloc,World.size_alloc] at h
  exact h
def keysV (f:Th→Int) (d:Nat):List Value:=(List.range 128).map fun (k:Nat)=>Value.bool (decide (f (1,(d:Int),(k:Int))=1))
theorem keysV_len (f:Th→Int) (d:Nat):(keysV f d).length=128:=by simp [keysV]
theorem keysV_at (f:Th→Int) (d:Nat) {k:Nat} (hk:k<128):(keysV f d)[k]?=some (.bool (decide (f (1,(d:Int),(k:Int))=1))):=by
 unfold keysV
 rw [List.getElem?_map,List.getElem?_range hk]
 rfl
theorem PlX.keys {f:Th→Int} {t:Int} {PB B:Nat} {W:World} (h:PlX f t PB W B) {d:Nat} (hd:d<6):W.rangeAt B (1+d * 128) (keysV f d):=by
 intro j v hj
 have hj2:j<128:=by
  have:=(List.getElem?_eq_some_iff.1 hj).1
  rwa [keysV_len] at this
 rw [keysV_at f d hj2] at hj
 cases hj
 have:=h.on (onIx_key (d:=d) (n:=j) hd hj2)
 unfold onCell at this
 rw [if_neg (show ¬ (1:Int)=4 by decide)] at this
 rw [Nat.add_assoc]
 exact this
theorem keys_info:(Tryz.prog.info? 113).map (·.size)=some 128:=by kernel_rfl
theorem run_keyAt (KA:Array Value) (k:Nat) (hk:k<128) (b:Bool) (h:KA[k]?=some (.bool b)) (w:World):(Instr.index 113 (.agg KA) (.int .i64 (k:Int))).run Tryz.prog w = .ok (.bool b) w:=by
 simp [Instr.index,go_sem,Tryz.sizeOf4,Tryz.isAgg4,h]
 intro h2
 omega
theorem takes_rd {W:World} {base n cap:Nat} {g:Nat} {L:List Int} (h:W.ownsRow base 3 1 (.slice (some ⟨g,0,none⟩) n cap) L.length (iCs L)) (hn:L.length=n) (h0:0<n) (only:Int) (ho:0≤only∧only≤2) :
  (only=0→ARd W (.slice (some ⟨g,0,none⟩) n cap) 1 ((takes only L).map iC)∧(takes only L).length=n)∧(only=1→ARd W (.slice (some ⟨g,0,none⟩) 1 cap) 1 ((takes only L).map iC)∧(takes only L).length=1)∧(only=2→ARd W (.slice (some ⟨g,n-1,none⟩) 1 (cap-(n-1))) 1 ((takes only L).map iC)∧(takes only L).length=1):=by
 have ha:=ARd.of_ints h
 rw [← hn] at ha
 refine ⟨fun e=>?_,fun e=>?_,fun e=>?_⟩
 ·subst e
  unfold takes
  rw [if_neg (by decide),if_neg (by decide)]
  exact ⟨by rw [← hn];exact ha,hn⟩
 ·subst e
  unfold takes
  rw [if_pos rfl]
  refine ⟨ha.pre (i:=1) (by omega) cap,?_⟩
  rw [List.length_take];omega
 ·subst e
  unfold takes
  rw [if_neg (by decide),if_pos rfl]
  have:=ha.suf (i:=L.length-1) (by omega) (cap-(n-1))
  rw [Nat.zero_add,show L.length-(L.length-1)=1 by omega] at this
  refine ⟨by rw [← hn];rw [← hn] at this;exact this,?_⟩
  rw [List.length_drop];omega
theorem mem_takes {only:Int} {L:List Int} {x:Int} (h:x∈takes only L):x∈L:=by
 unfold takes at h
 split at h
 ·exact List.mem_of_mem_take h
 ·split at h
  ·exact List.mem_of_mem_drop h
  ·exact h
theorem AcM.noC {w:World} {B:Nat} {m q:List Pl} {W:World} (h:AcM w B m q W) {P:Nat} {cs:Array Value} (hC:Blk W P 153 cs):P≠w.heap.size+1+1+1:=by
 obtain ⟨v,h1,_⟩:=h.x4
 exact hC.ne h1 (by decide)
def ActE (S:Sp) (f:Th→Int) (w:World) (e:Ending) (w':World):Prop:=∃ mb m,e = .returned (.map (some mb))∧w.heap.size≤mb∧Mp ekL w' mb (setM m)∧(∀ x,x∈m ↔ Acts S f x)∧Below w.heap.size w w'
end Go.Proofs.YthhfmppealmblaaGreatDoor
namespace Go.Proofs.YthhfmppealmblaaGreatDoor
open Go.RowKit
theorem HdRd.forms {W:World} {vk vs vc:Value} {S:Sp} {f:Th→Int} (h:HdRd W vk vs vc S f):(∃ a c,vk = .slice a S.ds.length c)∧(∃ a c,vs = .slice a (onL f 2 S.ss.length).length c)∧(∃ a c,vc = .slice a (onL f 3 S.cs.length).length c):=by
  obtain ⟨⟨g,h1,_⟩,h2,h3⟩:=h
  obtain ⟨a1,c1,e1⟩:=h1.form
  obtain ⟨a2,c2,e2⟩:=h2.form
  obtain ⟨a3,c3,e3⟩:=h3.form
  exact ⟨⟨a1,c1,by simpa using e1⟩,⟨a2,c2,by simpa using e2⟩,⟨a3,c3,by simpa using e3⟩⟩
theorem hd_blk {W:World} {B:Nat} {cs:Array Value} (h:Blk W B 70 cs) (hs:cs.size=3) (a b c:Value):Blk (((W.setCell ⟨B,0,none⟩ a).setCell ⟨B,1,none⟩ b).setCell ⟨B,2,none⟩ c) B 70 #[a,b,c]:=by
  obtain ⟨l⟩:=cs
  have hl:∃ x y z,l=[x,y,z]:=by
    match l,hs with
    | [x,y,z],_=>exact ⟨x,y,z,rfl⟩
  obtain ⟨x,y,z,rfl⟩:=hl
  exact ((h.set 0 a).set 1 b).set 2 c
end Go.Proofs.YthhfmppealmblaaGreatDoor
namespace Go.Proofs.YthhfmppealmblaaGreatDoor
open Go.RowKit
theorem len_playedL (f:Th→Int) (d:Int):(playedL f d).length≤128:=by rw [← playN_all];exact len_playN _ _ _
theorem HdRd.keyAt {W:World} {vk vs vc:Value} {S:Sp} {f:Th→Int} (h:HdRd W vk vs vc S f) {d:Nat} (hd:d<S.ds.length):∃ b o c g,vk = .slice (some ⟨b,o,none⟩) S.ds.length c∧W.cell? ⟨b,o+d,none⟩=some g∧ARd W g 1 ((playedL f d).map iC):=by
 obtain ⟨⟨g,h1,h2⟩,_⟩:=h
 obtain ⟨b,o,c,e,_,hc⟩:=h1.at d (by simpa using hd)
 refine ⟨b,o,c,g d,by simpa using e,?_,h2 d hd⟩
 have:=hc 0 (g d) (by simp)
 simpa using this
end Go.Proofs.YthhfmppealmblaaGreatDoor
namespace Go.Proofs.YthhfmppealmblaaGreatDoor
open Go.RowKit
end Go.Proofs.YthhfmppealmblaaGreatDoor
namespace Go.Proofs.YthhfmppealmblaaGreatDoor
end Go.Proofs.YthhfmppealmblaaGreatDoor
namespace Go.Proofs.YthhfmppealmblaaGreatDoor
open Go.RowKit
end Go.Proofs.YthhfmppealmblaaGreatDoor
namespace Go.Proofs.YthhfmppealmblaaGreatDoor
open Go.RowKit
end Go.Proofs.YthhfmppealmblaaGreatDoor
namespace Go.Proofs.YthhfmppealmblaaGreatDoor
open Go.RowKit
end Go.Proofs.YthhfmppealmblaaGreatDoor
namespace Go.Proofs.YthhfmppealmblaaGreatDoor
open Go.RowKit
theorem cp_good {S:Sp} (h:(checkP S).2=0) {c:Cp} (hc:c∈S.cs):0≤c.frm∧c.frm<S.ds.length∧0≤c.to∧c.to<S.ds.length∧-12≤c.shift∧c.shift≤12∧0≤c.only∧c.only≤2∧(c.thr=true→c.only=0):=by
 obtain ⟨h1,h2,h3,h4,h5,h6,h7,h8,h9⟩:=checkP_zero h
 obtain ⟨j,hj,rfl⟩:=List.mem_iff_getElem.1 hc
 have hz:=fst0_none.1 h9 j hj
 rw [errC_is hj] at hz
 have hz:=nmE_zero hz
 unfold cpE at hz
 split at hz
 ·rename_i q
  split at hz
  ·rename_i q2
   obtain ⟨z1,z2,z3,z4⟩:=q2
   refine ⟨q.1,q.2.1,q.2.2.1,q.2.2.2,by omega,by omega,z2,z3,fun ht=>?_⟩
   by_cases z:(S.cs[j]).only=0
   ·exact z
   ·exact absurd ⟨ht,z⟩ z4
  ·cases hz
 ·cases hz
end Go.Proofs.YthhfmppealmblaaGreatDoor
