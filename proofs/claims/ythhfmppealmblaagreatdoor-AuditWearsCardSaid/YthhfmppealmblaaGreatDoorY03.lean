/-
  A part of the proof: AR2, Held, AR3, AH1.
-/
import Derived.Test.YthhfmppealmblaaGreatDoorY02
import Derived.Test.YthhfmppealmblaaGreatDoorQ01
import Derived.Deep.RegionLaw
namespace Go.Proofs.YthhfmppealmblaaGreatDoor
open Go.RowKit
theorem ticksL_snoc (ts:List Int) (l:List Ev) (x:Ev):ticksL ts (l++[x])=putT (ticksL ts l) x.1:=by unfold ticksL;rw [List.foldl_append];rfl
theorem ticksL_take {l:List Ev} {i:Nat} (h:i<l.length) (ts:List Int):ticksL ts (l.take (i+1))=putT (ticksL ts (l.take i)) l[i].1:=by rw [List.take_succ_eq_append_getElem h,ticksL_snoc]
theorem len_ticksL (ts:List Int):∀ (l:List Ev),(ticksL ts l).length≤ts.length+l.length:=by
 intro l
 induction l generalizing ts with
 | nil=>exact Nat.le_refl _
 | cons x l ih =>
  have:=ih (putT ts x.1)
  have h2:=len_putT (t:=x.1) (l:=ts)
  show (ticksL (putT ts x.1) l).length≤_
  rw [List.length_cons]
  omega
set_option maxRecDepth 100000 in
set_option maxHeartbeats 3200000 in
theorem ticks34_any (l:List Ev) (vl:Value) (w:World) (hlv:ARd w vl 5 (l.map evC)) (hl:l.length≤50000) :
  Calls Tryz.prog 45 #[vl] w (TsR (ticksL [] l) w):=by
 obtain ⟨al,cl,rfl⟩:=hlv.evForm
 have HL:=Lib.hid hlv
 have HT0:=Lib.hid (tsRd_nil w)
 have HB0:=Lib.hid (Below.refl w.heap.size w)
 clear hlv
 go_enter Tryz.func45,Tryz.ntmps45
 go_wp2
 go_loopw [3,4] (fun v x wr=>∃ i:Nat,i≤l.length∧x = .int .i64 i∧RowKit.Hid (TsRd wr v (ticksL [] (l.take i)))∧RowKit.Hid (Below w.heap.size w wr)) (fun _ x _=>l.length-(intOf x).toNat)
 case atStart=>exact ⟨0,Nat.zero_le _,rfl,HT0,HB0⟩
 clear HT0 HB0
 obtain ⟨i,hi,rfl,hT,hB⟩:=hrel
 by_cases hil:i<l.length
 ·have hi2:(i:Int)<(l.length:Int):=by omega
  obtain ⟨b,o,c',ev,hbl,k0,_,_,_,_⟩:=(HL.out.later hB.out).evAt i hil
  cases ev
  have HTK:=Lib.hid (ticksL_take hil [])
  have HLN:=len_ticksL [] (l.take i)
  rw [List.length_take,List.length_nil] at HLN
  have hln2:(ticksL [] (l.take i)).length≤100000:=by omega
  obtain ⟨T,hT2⟩:∃ T,ticksL [] (l.take i)=T:=⟨_,rfl⟩
  rw [hT2] at hT hln2 HTK
  clear HLN hT2
  go_wp2_with fail
  refine (put_any T _ _ wr hT.out hln2).mono ?_
  rintro e w2 ⟨v2,rfl,ht2,hb2⟩
  have HT2:=Lib.hid ht2
  rw [← HTK.out] at HT2
  have HB2:=Lib.hid (below_step hB.out hb2)
  clear ht2 hb2 k0 hT hB
  go_wp2
  go_roundw
  case rel=>exact ⟨i+1,by omega,by go_num,HT2,HB2⟩
  case measure=>simp [intOf];omega
 ·have hi2:¬ (i:Int)<(l.length:Int):=by omega
  have hie:i=l.length:=by omega
  rw [hie,List.take_length] at hT
  clear hie
  go_wp2
  go_ret
  exact tsR rfl hT.out hB.out
def clC (c:Cl):List Value:=[.int .i64 c.1.1,.int .i64 c.1.2,.int .i64 c.2.1,.int .i64 c.2.2]
theorem ARd.clAt {w:World} {v:Value} {l:List Cl} (h:ARd w v 4 (l.map clC)) (i:Nat) (hi:i<l.length):∃ b o c,v = .slice (some ⟨b,o,none⟩) l.length c∧b<w.heap.size∧w.cell? ⟨b,o+i * 4,none⟩=some (.int .i64 l[i].1.1)∧w.cell? ⟨b,o+i * 4+1,none⟩=some (.int .i64 l[i].1.2)∧w.cell? ⟨b,o+i * 4+2,none⟩=some (.int .i64 l[i].2.1)∧w.cell? ⟨b,o+i * 4+3,none⟩=some (.int .i64 l[i].2.2):=by
 obtain ⟨b,o,c,e,hlt,hc⟩:=h.at i (by simpa using hi)
 rw [List.getElem_map] at hc
 rw [List.length_map] at e
 exact ⟨b,o,c,e,hlt,hc 0 _ rfl,hc 1 _ rfl,hc 2 _ rfl,hc 3 _ rfl⟩
theorem ARd.clForm {w:World} {v:Value} {l:List Cl} (h:ARd w v 4 (l.map clC)):∃ a c,v = .slice a l.length c:=by
 obtain ⟨a,c,e⟩:=h.form
 exact ⟨a,c,by simpa using e⟩
def PpsR (l:List Pp) (w:World) (e:Ending) (w':World):Prop:=∃ v,e = .returned v∧w'.ownsRow w.heap.size 45 2 v l.length (ppCs l)∧Below w.heap.size w w'
end Go.Proofs.YthhfmppealmblaaGreatDoor
namespace Go.Proofs.YthhfmppealmblaaGreatDoor
open Go.RowKit
theorem hold3 {W0 W w':World} {a0:Addr} {u0:Value} {a1:Addr} {u1:Value} {a2:Addr} {u2:Value} (h:Below W0.heap.size W0 W∧W.cell? a0=some u0∧W.cell? a1=some u1∧W.cell? a2=some u2) (hb:Below W.heap.size W w'):Below W0.heap.size W0 w'∧w'.cell? a0=some u0∧w'.cell? a1=some u1∧w'.cell? a2=some u2:=by
 obtain ⟨hB,h0,h1,h2⟩:=h
 exact ⟨below_step hB hb,(hb.cell (cell_size h0)).trans h0,(hb.cell (cell_size h1)).trans h1,(hb.cell (cell_size h2)).trans h2⟩
theorem hold4 {W0 W w':World} {a0:Addr} {u0:Value} {a1:Addr} {u1:Value} {a2:Addr} {u2:Value} {a3:Addr} {u3:Value} (h:Below W0.heap.size W0 W∧W.cell? a0=some u0∧W.cell? a1=some u1∧W.cell? a2=some u2∧W.cell? a3=some u3) (hb:Below W.heap.size W w'):Below W0.heap.size W0 w'∧w'.cell? a0=some u0∧w'.cell? a1=some u1∧w'.cell? a2=some u2∧w'.cell? a3=some u3:=by
 obtain ⟨hB,h0,h1,h2,h3⟩:=h
 exact ⟨below_step hB hb,(hb.cell (cell_size h0)).trans h0,(hb.cell (cell_size h1)).trans h1,(hb.cell (cell_size h2)).trans h2,(hb.cell (cell_size h3)).trans h3⟩
theorem hold5 {W0 W w':World} {a0:Addr} {u0:Value} {a1:Addr} {u1:Value} {a2:Addr} {u2:Value} {a3:Addr} {u3:Value} {a4:Addr} {u4:Value} (h:Below W0.heap.size W0 W∧W.cell? a0=some u0∧W.cell? a1=some u1∧W.cell? a2=some u2∧W.cell? a3=some u3∧W.cell? a4=some u4) (hb:Below W.heap.size W w'):Below W0.heap.size W0 w'∧w'.cell? a0=some u0∧w'.cell? a1=some u1∧w'.cell? a2=some u2∧w'.cell? a3=some u3∧w'.cell? a4=some u4:=by
 obtain ⟨hB,h0,h1,h2,h3,h4⟩:=h
 exact ⟨below_step hB hb,(hb.cell (cell_size h0)).trans h0,(hb.cell (cell_size h1)).trans h1,(hb.cell (cell_size h2)).trans h2,(hb.cell (cell_size h3)).trans h3,(hb.cell (cell_size h4)).trans h4⟩
theorem hold7 {W0 W w':World} {a0:Addr} {u0:Value} {a1:Addr} {u1:Value} {a2:Addr} {u2:Value} {a3:Addr} {u3:Value} {a4:Addr} {u4:Value} {a5:Addr} {u5:Value} {a6:Addr} {u6:Value} (h:Below W0.heap.size W0 W∧W.cell? a0=some u0∧W.cell? a1=some u1∧W.cell? a2=some u2∧W.cell? a3=some u3∧W.cell? a4=some u4∧W.cell? a5=some u5∧W.cell? a6=some u6) (hb:Below W.heap.size W w'):Below W0.heap.size W0 w'∧w'.cell? a0=some u0∧w'.cell? a1=some u1∧w'.cell? a2=some u2∧w'.cell? a3=some u3∧w'.cell? a4=some u4∧w'.cell? a5=some u5∧w'.cell? a6=some u6:=by
 obtain ⟨hB,h0,h1,h2,h3,h4,h5,h6⟩:=h
 exact ⟨below_step hB hb,(hb.cell (cell_size h0)).trans h0,(hb.cell (cell_size h1)).trans h1,(hb.cell (cell_size h2)).trans h2,(hb.cell (cell_size h3)).trans h3,(hb.cell (cell_size h4)).trans h4,(hb.cell (cell_size h5)).trans h5,(hb.cell (cell_size h6)).trans h6⟩
theorem hold9 {W0 W w':World} {a0:Addr} {u0:Value} {a1:Addr} {u1:Value} {a2:Addr} {u2:Value} {a3:Addr} {u3:Value} {a4:Addr} {u4:Value} {a5:Addr} {u5:Value} {a6:Addr} {u6:Value} {a7:Addr} {u7:Value} {a8:Addr} {u8:Value} (h:Below W0.heap.size W0 W∧W.cell? a0=some u0∧W.cell? a1=some u1∧W.cell? a2=some u2∧W.cell? a3=some u3∧W.cell? a4=some u4∧W.cell? a5=some u5∧W.cell? a6=some u6∧W.cell? a7=some u7∧W.cell? a8=some u8) (hb:Below W.heap.size W w'):Below W0.heap.size W0 w'∧w'.cell? a0=some u0∧w'.cell? a1=some u1∧w'.cell? a2=some u2∧w'.cell? a3=some u3∧w'.cell? a4=some u4∧w'.cell? a5=some u5∧w'.cell? a6=some u6∧w'.cell? a7=some u7∧w'.cell? a8=some u8:=by
 obtain ⟨hB,h0,h1,h2,h3,h4,h5,h6,h7,h8⟩:=h
 exact ⟨below_step hB hb,(hb.cell (cell_size h0)).trans h0,(hb.cell (cell_size h1)).trans h1,(hb.cell (cell_size h2)).trans h2,(hb.cell (cell_size h3)).trans h3,(hb.cell (cell_size h4)).trans h4,(hb.cell (cell_size h5)).trans h5,(hb.cell (cell_size h6)).trans h6,(hb.cell (cell_size h7)).trans h7,(hb.cell (cell_size h8)).trans h8⟩
end Go.Proofs.YthhfmppealmblaaGreatDoor
namespace Go.Proofs.YthhfmppealmblaaGreatDoor
open Go.RowKit
set_option maxRecDepth 100000 in
set_option maxHeartbeats 3200000 in
theorem rcheck34_any (v1 v2 v3 v4:Value) (S:Sp) (ok:SpOk S) (f:Nat→Value) (l:List Ev) (vl:Value) (w:World) (hsp:SpRd w v1 v2 v3 v4 f S) (hl:l.length≤1000000) (hlv:ARd w vl 5 (l.map evC)) :
  Calls Tryz.prog 17 #[.agg #[v1,v2,v3,v4],vl] w (NumR (audE S l) w):=by
 obtain ⟨al,cl,rfl⟩:=hlv.evForm
 have hb0:Below w.heap.size w (w.alloc (.cells #[v1,v2,v3,v4] 27)):=(Below.refl _ _).alloc (Nat.le_refl _) _
 have HX:=Lib.hid (Blk.new w 27 #[v1,v2,v3,v4])
 have HB0:=Lib.hid hb0
 have HSP:=Lib.hid hsp
 have HOK:=Lib.hid ok
 have HLV:=Lib.hid hlv
 obtain ⟨fl,er,hck⟩:∃ (fl:Int × Int × Int) (er:Int),ckV (checkP S) = .tuple #[.agg #[.int .i64 fl.1,.int .i64 fl.2.1,.int .i64 fl.2.2],.int .i64 er]∧(checkP S).2=er:=⟨_,_,rfl,rfl⟩
 have HCK:=Lib.hid hck.1
 have HER:=Lib.hid hck.2
 clear hb0 hsp ok hlv hck
 go_enter Tryz.func17,Tryz.ntmps17
 go_wp2_with fail
 refine (rcheck_any v1 v2 v3 v4 S HOK.out _ f (HSP.out.later HB0.out)).mono ?_
 rw [HCK.out]
 rintro e W1 ⟨rfl,hb1⟩
 obtain ⟨W2,hw2⟩:∃ W2,W1.alloc (.cells #[.int .i64 fl.1,.int .i64 fl.2.1,.int .i64 fl.2.2] 100)=W2:=⟨_,rfl⟩
 have hb2:Below W1.heap.size W1 W2:=by rw [← hw2];exact (Below.refl _ _).alloc (Nat.le_refl _) _
 have HB:=Lib.hid (below_step (below_step HB0.out hb1) hb2)
 have HX2:=Lib.hid ((HX.out.below hb1).below hb2)
 clear hb1 hb2
 by_cases he:er=0
 ·have HE:RowKit.Hid (audE S l=if (recE S l).2=0 then 0 else 6):=by unfold audE;rw [HER.out,if_pos he];exact Lib.hid rfl
  subst he
  obtain ⟨s0,s1,s2,s3⟩:=HX2.out.four
  obtain ⟨r1,hr1⟩:∃ r,(recE S l).1=r:=⟨_,rfl⟩
  obtain ⟨r2,hr2⟩:∃ r,(recE S l).2=r:=⟨_,rfl⟩
  have HR1:=Lib.hid hr1
  have HR2:=Lib.hid hr2
  clear hr1 hr2
  go_wp2_with fail
  refine (rcheck31_any v1 v2 v3 v4 S HOK.out f l _ W2 (HSP.out.later HB.out) hl (HLV.out.later HB.out)).mono ?_
  rintro e W3 ⟨rfl,hb3⟩
  rw [HR1.out,HR2.out]
  have HB3:=Lib.hid (below_step HB.out hb3)
  clear hb3 s0 s1 s2 s3
  by_cases h0:r2=0
  ·have HQ:=Lib.hid (show audE S l=0 by rw [HE.out,HR2.out,if_pos h0])
   subst h0
   go_wp2
   go_ret
   exact numR HQ.out HB3.out
  ·have HQ:=Lib.hid (show audE S l=6 by rw [HE.out,HR2.out,if_neg h0])
   have hq:(r2 != 0)=true:=by simpa using h0
   clear h0
   go_wp2
   go_ret
   exact numR HQ.out HB3.out
 ·have HQ:=Lib.hid (show audE S l=er by unfold audE;rw [HER.out,if_neg he])
  have hq:(er != 0)=true:=by simpa using he
  clear he
  go_wp2
  go_ret
  exact numR HQ.out HB.out
end Go.Proofs.YthhfmppealmblaaGreatDoor
namespace Go.Proofs.YthhfmppealmblaaGreatDoor
open Go.RowKit
structure RwsI (base n KB:Nat) (vals:Nat→Value) (G:Nat→List Int) (W:World):Prop where
 blk:∃ cs,Blk W KB 68 cs∧cs.size=n∧∀ d,d<n→cs[d]?=some (vals d)
 rows:∀ d,d<n→W.ownsRow base 3 1 (vals d) (G d).length (iCs (G d))
 apart:∀ d e,d<n→e<n→d≠e→(vals d).ownBlock=none∨(vals d).ownBlock≠(vals e).ownBlock
 kb:base≤KB
theorem RwsI.below {base n KB:Nat} {vals:Nat→Value} {G:Nat→List Int} {W W':World} (h:RwsI base n KB vals G W) (hb:Below W.heap.size W W'):RwsI base n KB vals G W':=by
 obtain ⟨⟨cs,h1,h2,h3⟩,hr,ha,hk⟩:=h
 exact ⟨⟨cs,h1.below hb,h2,h3⟩,fun d hd=>row_later (hr d hd) hb,ha,hk⟩
theorem RwsI.lt {base n KB:Nat} {vals:Nat→Value} {G:Nat→List Int} {W:World} (h:RwsI base n KB vals G W):KB<W.heap.size:=by
 obtain ⟨⟨cs,h1,_⟩,_⟩:=h
 exact h1.lt
theorem RwsI.cell {base n KB:Nat} {vals:Nat→Value} {G:Nat→List Int} {W:World} (h:RwsI base n KB vals G W) {d:Nat} (hd:d<n):W.cell? ⟨KB,d,none⟩=some (vals d):=by
 obtain ⟨⟨cs,h1,h2,h3⟩,_⟩:=h
 rw [h1.cell];exact h3 d hd
theorem row_not {W:World} {base:Nat} {t t':TypeId} {k n:Nat} {v:Value} {xs:List Value} (h:W.ownsRow base t k v n xs) {B:Nat} {cs:Array Value} (hb:Blk W B t' cs) (ht:t'≠t):v.ownBlock≠some B:=by
 intro e
 rcases h.2 with ⟨rfl,_⟩ | ⟨g,cap,cur,rfl,_,hg,_⟩
 ·cases e
 ·simp only [Value.ownBlock,Option.some.injEq] at e
  subst e
  rw [show W.heap[g]?=_ from hb] at hg
  cases hg
  exact ht rfl
theorem RwsI.start {base n KB:Nat} {W:World} {cs:Array Value} (hb:Blk W KB 68 cs) (hs:cs.size=n) (hc:∀ d,d<n→cs[d]?=some (.slice none 0 0)) (hk:base≤KB):RwsI base n KB (fun _ => .slice none 0 0) (fun _=>[]) W :=
 ⟨⟨cs,hb,hs,hc⟩,fun _ _=>World.ownsRow_nil _ _ _ _,fun _ _ _ _ _ => .inl rfl,hk⟩
theorem RwsI.push {base n KB:Nat} {vals:Nat→Value} {G:Nat→List Int} {W W1 W3:World} (h:RwsI base n KB vals G W) (hb:Below W.heap.size W W1) {d:Nat} (hd:d<n) {k:Int} {g cap m:Nat} (hown:W3.ownsRow base 3 1 (.slice (some ⟨g,0,none⟩) m cap) m (iCs (G d)++[.int .i64 k])) (hm:m=(G d).length+1)
  (hg:W1.grownBy W3 (vals d).ownBlock) (hat:(vals d).ownBlock=some g∨g=W1.heap.size) :
  RwsI base n KB (fun e=>if e=d then .slice (some ⟨g,0,none⟩) m cap else vals e) (fun e=>if e=d then G d++[k] else G e) (W3.setCell ⟨KB,d,none⟩ (.slice (some ⟨g,0,none⟩) m cap)):=by
 have h1:=h.below hb
 obtain ⟨⟨cs,hB,hsz,hc⟩,hr,ha,hk⟩:=h1
 have hKB:(vals d).ownBlock≠some KB:=row_not (hr d hd) hB (by decide)
 have hB3:Blk W3 KB 68 cs:=hB.grown hg hKB
 have hgK:g≠KB:=by
  rcases hat with e | e
  ·intro q;rw [q] at e;exact hKB e
  ·have:=hB.lt;omega
 refine ⟨⟨_,hB3.set d _,by rw [Array.size_setIfInBounds];exact hsz,fun e he=>?_⟩,fun e he=>?_,fun a b hA hBn hne=>?_,hk⟩
 ·rw [Array.getElem?_setIfInBounds]
  by_cases q:d=e
  ·subst q;rw [if_pos rfl,if_pos (by omega),if_pos rfl]
  ·rw [if_neg q,if_neg (fun z=>q z.symm)]
   exact hc e he
 ·have hgrow:W3.grownBy (W3.setCell ⟨KB,d,none⟩ (.slice (some ⟨g,0,none⟩) m cap)) (some KB):=set_grown _ _ _ _
  by_cases q:e=d
  ·subst q
   simp only [if_true]
   rw [List.length_append,List.length_singleton,← hm,show iCs (G e++[k])=iCs (G e)++[.int .i64 k] from iCs_snoc _ _]
   exact hown.kept hgrow (.inr (by simp only [Value.ownBlock,ne_eq,Option.some.injEq];exact hgK))
  ·simp only [if_neg q]
   have h3:(vals e).ownBlock=none∨(vals e).ownBlock≠(vals d).ownBlock:=ha e d he hd q
   have h4:W3.ownsRow base 3 1 (vals e) (G e).length (iCs (G e)):=(hr e he).kept hg h3
   exact h4.kept hgrow (.inr (row_not h4 hB3 (by decide)))
 ·have hlt:∀ e,e<n→∀ j,(vals e).ownBlock=some j→j<W1.heap.size:=fun e he j hj=>by
   rcases (hr e he).2 with ⟨q,_⟩ | ⟨g2,cap2,cur2,q,_,hg2,_⟩
   ·rw [q] at hj;cases hj
   ·rw [q] at hj
    cases hj
    exact (Array.getElem?_eq_some_iff.1 hg2).1
  by_cases qa:a=d
  ·subst qa
   have qb:¬ b=a:=fun z=>hne z.symm
   simp only [if_true,if_neg qb]
   right
   intro e
   simp only [Value.ownBlock] at e
   rcases hat with q | q
   ·rcases ha a b hA hBn hne with z | z
    ·rw [z] at q;cases q
    ·exact z (by rw [q];exact e)
   ·have:=hlt b hBn g e.symm
    omega
  ·simp only [if_neg qa]
   by_cases qb:b=d
   ·subst qb
    simp only [if_true]
    cases hva:(vals a).ownBlock with
    | none=>exact .inl rfl
    | some j =>
     right
     intro e
     simp only [Value.ownBlock,Option.some.injEq] at e
     subst e
     rcases hat with q | q
     ·rcases ha a b hA hBn hne with z | z
      ·rw [z] at hva;cases hva
      ·exact z (by rw [q,hva])
     ·have:=hlt a hA _ hva
      omega
   ·simp only [if_neg qb]
    exact ha a b hA hBn hne
def onL (f:Th→Int) (k:Int) (n:Nat):List Int:=((List.range n).map fun (i:Nat)=>(i:Int)).filter fun i=>decide (f (k,0,i)=1)
theorem onL_succ (f:Th→Int) (k:Int) (n:Nat):onL f k (n+1)=onL f k n++if f (k,0,(n:Int))=1 then [(n:Int)] else []:=by
 unfold onL
 rw [List.range_succ,List.map_append,List.filter_append]
 by_cases h:f (k,0,(n:Int))=1
 ·rw [if_pos h];simp [h]
 ·rw [if_neg h];simp [h]
theorem mem_onL {f:Th→Int} {k:Int} {n:Nat} {i:Int}:i∈onL f k n ↔ 0≤i∧i<n∧f (k,0,i)=1:=by
 unfold onL
 rw [List.mem_filter,List.mem_map,decide_eq_true_iff]
 constructor
 ·rintro ⟨⟨a,ha,rfl⟩,h⟩
  have:=List.mem_range.1 ha
  exact ⟨by omega,by omega,h⟩
 ·rintro ⟨h1,h2,h3⟩
  exact ⟨⟨i.toNat,List.mem_range.2 (by omega),by omega⟩,h3⟩
theorem len_onL (f:Th→Int) (k:Int) (n:Nat):(onL f k n).length≤n:=by
 unfold onL
 have:=List.length_filter_le (fun i=>decide (f (k,0,i)=1)) ((List.range n).map fun (i:Nat)=>(i:Int))
 rw [List.length_map,List.length_range] at this
 exact this
def playN (f:Th→Int) (d:Int) (n:Nat):List Int:=((List.range n).map fun (k:Nat)=>(k:Int)).filter fun k=>decide (f (1,d,k)=1)
theorem playN_all (f:Th→Int) (d:Int):playN f d 128=playedL f d:=rfl
theorem playN_succ (f:Th→Int) (d:Int) (n:Nat):playN f d (n+1)=playN f d n++if f (1,d,(n:Int))=1 then [(n:Int)] else []:=by
 unfold playN
 rw [List.range_succ,List.map_append,List.filter_append]
 by_cases h:f (1,d,(n:Int))=1
 ·rw [if_pos h];simp [h]
 ·rw [if_neg h];simp [h]
theorem len_playN (f:Th→Int) (d:Int) (n:Nat):(playN f d n).length≤n:=by
 unfold playN
 have:=List.length_filter_le (fun i=>decide (f (1,d,i)=1)) ((List.range n).map fun (i:Nat)=>(i:Int))
 rw [List.length_map,List.length_range] at this
 exact this
def rowG (f:Th→Int) (d k:Nat):Nat→List Int:=fun e=>if e<d then playedL f e else if e=d then playN f d k else []
theorem rowG_zero (f:Th→Int):rowG f 0 0=fun _=>[]:=by
 funext e
 unfold rowG
 rw [if_neg (Nat.not_lt_zero e)]
 split
 ·rfl
 ·rfl
theorem rowG_next (f:Th→Int) (d:Nat):rowG f d 128=rowG f (d+1) 0:=by
 funext e
 unfold rowG
 by_cases h1:e<d
 ·rw [if_pos h1,if_pos (by omega)]
 ·rw [if_neg h1]
  by_cases h2:e=d
  ·rw [if_pos h2,if_pos (by omega),h2];rfl
  ·rw [if_neg h2,if_neg (by omega)]
   split
   ·rfl
   ·rfl
theorem rowG_yes {f:Th→Int} {d k:Nat} (h:f (1,(d:Int),(k:Int))=1):rowG f d (k+1)=fun e=>if e=d then rowG f d k d++[(k:Int)] else rowG f d k e:=by
 funext e
 by_cases q:e=d
 ·subst q
  simp only [if_true]
  unfold rowG
  rw [if_neg (Nat.lt_irrefl e),if_pos rfl,if_neg (Nat.lt_irrefl e),if_pos rfl,playN_succ,if_pos h]
 ·simp only [if_neg q]
  unfold rowG
  rw [if_neg q,if_neg q]
theorem rowG_no {f:Th→Int} {d k:Nat} (h:f (1,(d:Int),(k:Int))≠1):rowG f d (k+1)=rowG f d k:=by
 funext e
 unfold rowG
 by_cases h1:e<d
 ·rw [if_pos h1,if_pos h1]
 ·rw [if_neg h1,if_neg h1]
  by_cases h2:e=d
  ·rw [if_pos h2,if_pos h2,playN_succ,if_neg h,List.append_nil]
  ·rw [if_neg h2,if_neg h2]
theorem rowG_len (f:Th→Int) (d k:Nat) (hk:k≤128) (e:Nat):(rowG f d k e).length≤128:=by
 unfold rowG
 split
 ·rw [← playN_all];exact len_playN _ _ _
 ·split
  ·exact Nat.le_trans (len_playN _ _ _) hk
  ·exact Nat.zero_le _
theorem rowG_full {f:Th→Int} {d e:Nat} (h:e<d):rowG f d 0 e=playedL f e:=by unfold rowG;rw [if_pos h]
structure HdRd (W:World) (vk vs vc:Value) (S:Sp) (f:Th→Int):Prop where
 keys:∃ g:Nat→Value,ARd W vk 1 ((List.range S.ds.length).map fun d=>[g d])∧∀ d,d<S.ds.length→ARd W (g d) 1 ((playedL f d).map iC)
 stops:ARd W vs 1 ((onL f 2 S.ss.length).map iC)
 cous:ARd W vc 1 ((onL f 3 S.cs.length).map iC)
theorem HdRd.later {W W':World} {vk vs vc:Value} {S:Sp} {f:Th→Int} (h:HdRd W vk vs vc S f) (hb:Below W.heap.size W W'):HdRd W' vk vs vc S f:=by
 obtain ⟨⟨g,h1,h2⟩,h3,h4⟩:=h
 exact ⟨⟨g,h1.later hb,fun d hd=>(h2 d hd).later hb⟩,h3.later hb,h4.later hb⟩
theorem RwsI.ard {base n KB:Nat} {vals:Nat→Value} {G:Nat→List Int} {W:World} (h:RwsI base n KB vals G W) (c:Nat):ARd W (.slice (some ⟨KB,0,none⟩) n c) 1 ((List.range n).map fun d=>[vals d]):=by
 refine ⟨some ⟨KB,0,none⟩,c,by simp,fun i hi=>⟨KB,0,rfl,h.lt,fun j u hj=>?_⟩⟩
 have hi2:i<n:=by simpa using hi
 have hj0:j=0:=by
  have:=(List.getElem?_eq_some_iff.1 hj).1
  simpa using this
 subst hj0
 have e:u=vals i:=by simpa using hj.symm
 rw [e]
 have:=h.cell hi2
 simpa using this
theorem ints_info2:(Tryz.prog.info? 68).map (fun i=>(i.zero,i.size,i.bytes))=some (some (.slice none 0 0),1,24):=by kernel_rfl
theorem int64_info:(Tryz.prog.info? 3).map (fun i=>(i.zero,i.size,i.bytes))=some (some (.int .i64 0),1,8):=by kernel_rfl
end Go.Proofs.YthhfmppealmblaaGreatDoor
