/-
  A part of the proof: WP, VX, VY, VZ, DX, WQ, JD.
-/
import Derived.Test.YteflhbfgpknabaaGreatDoorN30
import Derived.Test.YteflhbfgpknabaaGreatDoorN20
import Derived.Test.YteflhbfgpknabaaGreatDoorN08
import Derived.Deep.RegionHeld3
import Derived.Test.YteflhbfgpknabaaGreatDoorN31
import Derived.Test.YteflhbfgpknabaaGreatDoorN12
import Derived.Shelf.SlicesE.IndexFunc
import Derived.BigQuiet
import Derived.Deep.QuietTactic
import Derived.Test.YteflhbfgpknabaaGreatDoorN21
import Derived.Test.YteflhbfgpknabaaGreatDoorN28
import Derived.Test.YteflhbfgpknabaaGreatDoorN23
namespace Go.Proofs.YteflhbfgpknabaaGreatDoor
open Go.RowKit Go.Shelf
set_option maxRecDepth 100000 in
set_option maxHeartbeats 6400000 in
theorem lawBefore_any (a b:List Ft) (va vb:Value) (w:World) (hab:lexLt a b) (hl:a.length≤1000000) (ha:ARd w va 3 (a.map ftC)) (hb:ARd w vb 3 (b.map ftC)) :
  Calls Tryz.prog 13 #[va,vb] w (BoolR true w):=by
 obtain ⟨i0,h1,h2,hpre,hlt⟩:=lex_first hab
 obtain ⟨aa,ca,rfl⟩:=ha.ftForm
 obtain ⟨ab,cb,rfl⟩:=hb.ftForm
 have HA:=Lib.hid ha
 have HB:=Lib.hid hb
 have HP:=Lib.hid hpre
 have HL:=Lib.hid hlt
 have HW0:=Lib.hid (Below.refl w.heap.size w)
 clear ha hb hpre hlt hab
 go_enter Tryz.func13,Tryz.ntmps13
 go_wp2
 go_loopw [5] (fun x wr=>∃ i:Nat,i≤i0∧x = .int .i64 i∧RowKit.Hid (Below w.heap.size w wr)) (fun x _=>a.length - (intOf x).toNat)
 case atStart=>exact ⟨0,Nat.zero_le _,rfl,HW0⟩
 clear HW0
 obtain ⟨i,hi,rfl,hW⟩:=hrel
 have hia:i < a.length:=by omega
 have hib:i < b.length:=by omega
 have q1:(i:Int) < (a.length:Int):=by omega
 have q2:(i:Int) < (b.length:Int):=by omega
 obtain ⟨b1,o1,c1,ev,hbl1,x0,x1,x2⟩:=(HA.out.later hW.out).ftAt i hia
 cases ev
 obtain ⟨b2,o2,c2,ev,hbl2,y0,y1,y2⟩:=(HB.out.later hW.out).ftAt i hib
 cases ev
 have HEQ:=Lib.hid (show i < i0→decide (a[i]=b[i])=true from fun h=>decide_eq_true (HP.out i h))
 have HLT:=Lib.hid (show i=i0→fLt a[i] b[i] from fun h=>by subst h; exact HL.out)
 obtain ⟨⟨p0,p1,p2⟩,hx⟩:∃ x,a[i]=x:=⟨_,rfl⟩
 obtain ⟨⟨r0,r1,r2⟩,hy⟩:∃ y,b[i]=y:=⟨_,rfl⟩
 rw [hx] at x0 x1 x2 HEQ HLT
 rw [hy] at y0 y1 y2 HEQ HLT
 dsimp only at x0 x1 x2 y0 y1 y2
 clear hx hy
 by_cases hii:i < i0
 ·have hne:=fun W=>neDg (HEQ.out hii) W
  dsimp only at hne
  clear HEQ HLT
  go_upto_region 4 with fail
  go_quiet (fail)
  have HW9:=Lib.hid (below_drewN hW.out nq)
  go_wp2
  go_roundw
  case rel=>exact ⟨i + 1,by omega,by go_num,HW9⟩
  case measure=>simp [intOf]; omega
 ·have hl3:=HLT.out (by omega)
  have hbb:decide (((p0,p1,p2):Ft)=(r0,r1,r2))=false:=decide_eq_false (fun e=>by rw [e] at hl3; exact fLt_irr _ hl3)
  have hne:=fun W=>neDg hbb W
  dsimp only at hne
  have HLE:=Lib.hid (fun (W:World)=>show Calls Tryz.prog 29 #[.agg #[.int .i64 p0,.int .i64 p1,.int .i64 p2],.agg #[.int .i64 r0,.int .i64 r1,.int .i64 r2]] W (BoolR true W) from by
   have h:=less30_any p0 p1 p2 r0 r1 r2 W
   rw [decide_eq_true hl3] at h
   exact h)
  clear HEQ HLT hbb hl3
  go_upto_region 4 with fail
  go_quiet (fail)
  have hh:=hold6 (W0:=w) ⟨hW.out,x0,x1,x2,y0,y1,y2⟩ (below_drewN (Below.refl _ wr) nq)
  clear x0 x1 x2 y0 y1 y2
  obtain ⟨W1,hW1⟩:∃ W1,wr.drewN nq=W1:=⟨_,rfl⟩
  rw [hW1] at hh ⊢
  clear hW1
  obtain ⟨hb1,x0,x1,x2,y0,y1,y2⟩:=hh
  have hdr:=hold6 (W0:=w) ⟨hb1,x0,x1,x2,y0,y1,y2⟩ ((Below.refl _ W1).drew)
  clear hb1
  go_upto_region 5 with fail
  go_region_held3 (fun w'=>Below w.heap.size w w'∧w'.cell? ⟨b1,o1 + i * 3,none⟩=some (.int .i64 p0)∧w'.cell? ⟨b1,o1 + i * 3 + 1,none⟩=some (.int .i64 p1)∧w'.cell? ⟨b1,o1 + i * 3 + 2,none⟩=some (.int .i64 p2)∧w'.cell? ⟨b2,o2 + i * 3,none⟩=some (.int .i64 r0)∧w'.cell? ⟨b2,o2 + i * 3 + 1,none⟩=some (.int .i64 r1)∧w'.cell? ⟨b2,o2 + i * 3 + 2,none⟩=some (.int .i64 r2)) (first | exact hdr | assumption | fail) (first | (go_at_call 29; (with_reducible refine (HLE.out _).mono ?_); rintro e W5 ⟨rfl,hb5⟩; have hn:=hold6 hdr hb5; have HB5:=Lib.hid hn.1; clear hb5) | fail)
  go_wp2
  go_ret
  exact ⟨rfl,HB5.out⟩
end Go.Proofs.YteflhbfgpknabaaGreatDoor
namespace Go.Proofs.YteflhbfgpknabaaGreatDoor
open Go.RowKit Go.Shelf
end Go.Proofs.YteflhbfgpknabaaGreatDoor
namespace Go.Proofs.YteflhbfgpknabaaGreatDoor
open Go.RowKit Go.Shelf
section
variable {w W W' : World} {v1 v2 v3 v4 vk vs vc uh un : Value} {C : List (List Pp)} {N : List Int} {gh : Nat → Value}
end
end Go.Proofs.YteflhbfgpknabaaGreatDoor
namespace Go.Proofs.YteflhbfgpknabaaGreatDoor
open Go.RowKit Go.Shelf
end Go.Proofs.YteflhbfgpknabaaGreatDoor
namespace Go.Proofs.YteflhbfgpknabaaGreatDoor
def hdT (S:Sp) (B:(Th→Int)→Pp→Bool) (F:List Ft) (Hs:List Hn):List Tl:=Hs.map fun H=>⟨H,hearL S B F (onH H)⟩
theorem hd_len {S:Sp} {B:(Th→Int)→Pp→Bool} {F:List Ft} {Hs:List Hn}:(hdT S B F Hs).length=Hs.length:=List.length_map ..
theorem hd_at {S:Sp} {B:(Th→Int)→Pp→Bool} {F:List Ft} {Hs:List Hn} {i:Nat} (hi:i < Hs.length):(hdT S B F Hs)[i]'(by rw [hd_len]; exact hi)=⟨Hs[i],hearL S B F (onH Hs[i])⟩:=List.getElem_map ..
theorem hn_hndE {S:Sp} (hc:(checkP S).2=0) {H:Hn} (h:hnE S H=0):hndE S H=0:=by
 unfold hnE at h
 rw [if_neg (by omega)] at h
 exact h
theorem hd_trl {S:Sp} {B:(Th→Int)→Pp→Bool} {F:List Ft} {Hs:List Hn} (hc:(checkP S).2=0) (hl:Hs.length≤20) (h:∀ H∈Hs,hnE S H=0):trlE S (hdT S B F Hs)=0 :=
 trlE_of hc (by rw [hd_len]; exact hl) fun t ht=>by
  obtain ⟨H,hH,rfl⟩:=List.mem_map.1 ht
  exact ⟨hn_hndE hc (h H hH),hearL_asc S B F _⟩
theorem hd_exps {S:Sp} {B:(Th→Int)→Pp→Bool} {F:List Ft} {Hs:List Hn}:Exps S B F (trs (hdT S B F Hs)):=fun t ht=>by
 obtain ⟨x,hx,rfl⟩:=List.mem_map.1 ht
 obtain ⟨H,_,rfl⟩:=List.mem_map.1 hx
 rfl
theorem lsP_lea {S:Sp} {B:(Th→Int)→Pp→Bool} {L:List Tl} {most:Int} {M:List (List Ft)} {e:Int} (h0:lsE S L most=0) (h:LsP S B L most M e):LeaP S B (trs L) most.toNat M e:=by
 rcases h with ⟨h1,_⟩ | ⟨_,h⟩
 ·exact absurd h0 h1
 ·exact h
theorem ls_two {S:Sp} {L:List Tl} (h:trlE S L=0) (hs:S.ss.length≤4) (hcs:S.cs.length≤4):lsE S L 2=0:=lsE_in h (by omega) (by omega)
structure FndP (S:Sp) (B:(Th→Int)→Pp→Bool) (L:List Tl) (F:List Ft) (M:List (List Ft)) (many:Nat):Prop where
 sz:∀ i (hi:i < M.length),M[i].length=many
 ex:∀ i (hi:i < M.length),exB S B M[i] L=true∧exE S M[i] L=0
 asc:∀ i (hi:i + 1 < M.length),lexLt M[i] M[i + 1]
 ne:0 < M.length
 le:M.length≤200
 m2:many≤2
 few:many≤F.length
 fd:F∈M∨many < F.length
theorem ex_is {S:Sp} {B:(Th→Int)→Pp→Bool} {L:List Tl} {F:List Ft} (h:trlE S L=0) (hF:FtsOk S F) (hl:F.length≤10) (hx:Exps S B F (trs L)):exB S B F L=true∧exE S F L=0:=by
 have hf:fltE S F=0:=fltE_ok.2 ⟨(trlE_ok h).1,hl,hF⟩
 have he:exE S F L=0:=(ex_trl hf h)
 have hn:=ex_good he (failI_exps.2 hx)
 exact ⟨by rw [hn.1]; rfl,he⟩
theorem fnd_of {S:Sp} {B:(Th→Int)→Pp→Bool} {L:List Tl} {F:List Ft} {M:List (List Ft)} {e:Int} (h0:trlE S L=0) (hs:S.ss.length≤4) (hcs:S.cs.length≤4) (hF:FtsOk S F) (hl:F.length≤2) (hx:Exps S B F (trs L)) (h:LsP S B L 2 M e):(e=5∧M=[])∨(e=0∧∃ many,FndP S B L F M many):=by
 rcases lea_found (lsP_lea (ls_two h0 hs hcs) h) hF hl hx with h | ⟨rfl,many,h1,h2,h3,h4,h5,h6,h7⟩
 ·exact .inl h
 ·have h2:many≤2:=h2
  refine .inr ⟨rfl,many,fun i hi=>h3.size (List.getElem_mem hi),fun i hi=>?_,fun i hi=>List.pairwise_iff_getElem.1 h3.1 i (i + 1) (by omega) hi (by omega),List.length_pos_iff.2 h4,h5,h2,h1,h6⟩
  obtain ⟨a,b,c⟩:=(h3.2 _).1 (List.getElem_mem hi)
  exact ex_is h0 a (by omega) c
def fndB (F:List Ft) (M:List (List Ft)) (i:Nat):Bool:=decide (F∈M.take i)
theorem fnd_step {F:List Ft} {M:List (List Ft)} {i:Nat} (hi:i < M.length):fndB F M (i + 1)=(fndB F M i || decide ([M[i]]=[F])):=by
 unfold fndB
 rw [List.take_succ_eq_append_getElem hi,← Bool.decide_or]
 congr 1
 rw [List.mem_append,List.mem_singleton,List.cons.injEq]
 simp only [and_true,eq_iff_iff]
 constructor
 ·rintro (h | h)
  ·exact .inl h
  ·exact .inr h.symm
 ·rintro (h | h)
  ·exact .inl h
  ·exact .inr h.symm
theorem fnd_end {S:Sp} {B:(Th→Int)→Pp→Bool} {L:List Tl} {F:List Ft} {M:List (List Ft)} {many:Nat} (h:FndP S B L F M many):fndB F M M.length=true∨(many:Int) < (F.length:Int):=by
 rcases h.fd with q | q
 ·left; unfold fndB; rw [List.take_length]; exact decide_eq_true q
 ·right; omega
/-! The law of DiagnosisMore. -/
end Go.Proofs.YteflhbfgpknabaaGreatDoor
namespace Go.Proofs.YteflhbfgpknabaaGreatDoor
open Go.RowKit Go.Shelf
theorem dgTrial_info:(Tryz.prog.info? 58).map (fun i=>(i.zero,i.size,i.bytes))=some (some (.agg #[.slice none 0 0,.slice none 0 0,.slice none 0 0,.slice none 0 0]),4,96):=by kernel_rfl
def hrC (hk hs hc gh:Nat→Value) (k:Nat):List Value:=((List.range k).map fun i=>[hk i,hs i,hc i,gh i]).flatten
structure HrW (w:World) (v1 v2 v3 v4:Value) (Hl:Hn→List Pp) (Hs:List Hn) (hk hs hc:Nat→Value) (k:Nat) (gh:Nat→Value) (v:Value) (W:World):Prop where
 b:Below w.heap.size w W
 sp:Blk W w.heap.size 27 #[v1,v2,v3,v4]
 row:W.ownsRow w.heap.size 58 4 v k (hrC hk hs hc gh k)
 cs:∀ i (_:i < k) (h:i < Hs.length),W.ownsRow w.heap.size 78 2 (gh i) (Hl Hs[i]).length (ppCs (Hl Hs[i]))
section
variable {w W W' : World} {v1 v2 v3 v4 v : Value} {Hl : Hn → List Pp} {Hs : List Hn} {hk hs hc gh : Nat → Value} {k : Nat}
theorem HrW.later (h:HrW w v1 v2 v3 v4 Hl Hs hk hs hc k gh v W) (hb:Below W.heap.size W W'):HrW w v1 v2 v3 v4 Hl Hs hk hs hc k gh v W' :=
 ⟨below_step h.b hb,h.sp.below hb,row_later h.row hb,fun i hi hh=>row_later (h.cs i hi hh) hb⟩
theorem HrW.push (h:HrW w v1 v2 v3 v4 Hl Hs hk hs hc k gh v W) (hkl:k < Hs.length) {o:Obj} {m:List Pp} (hme:Hl Hs[k]=m) {mv v':Value} (hm:W.ownsRow w.heap.size 78 2 mv m.length (ppCs m)) (hg:(W.alloc o).grownBy W' v.ownBlock) (ho:W'.ownsRow w.heap.size 58 4 v' (k + 1) (hrC hk hs hc gh k ++ [hk k,hs k,hc k,mv])) :
  HrW w v1 v2 v3 v4 Hl Hs hk hs hc (k + 1) (fun i=>if i=k then mv else gh i) v' W':=by
 have hba:Below W.heap.size W (W.alloc o):=(Below.refl _ W).alloc (Nat.le_refl _) _
 have h1:=h.later hba
 refine ⟨h1.b.grown hg h1.b.size (fun k e=>row_ge h1.row e),h.sp.rowed h.row (by decide) hg,?_,fun i hi hh=>?_⟩
 ·have e:hrC hk hs hc (fun i=>if i=k then mv else gh i) (k + 1)=hrC hk hs hc gh k ++ [hk k,hs k,hc k,mv]:=by
   unfold hrC
   rw [List.range_succ,List.map_append,List.flatten_append]
   congr 1
   ·congr 1
    refine List.map_congr_left fun i hi=>?_
    have hne:¬ i=k:=by have:=List.mem_range.1 hi; omega
    simp only [if_neg hne]
   ·simp
  rw [e]
  exact ho
 ·by_cases e:i=k
  ·subst e
   subst hme
   simp only [if_pos]
   exact owns_rowed hm h.row (by decide) hg
  ·simp only [if_neg e]
   exact owns_rowed (h.cs i (by omega) hh) h.row (by decide) hg
theorem HrW.rd {S:Sp} {B:(Th→Int)→Pp→Bool} {F:List Ft} {hv:Value} (h:HrW w v1 v2 v3 v4 (fun H=>hearL S B F (onH H)) Hs hk hs hc Hs.length gh v W) (hh:HnsRd W hv Hs hk hs hc):TlRd W v (hdT S B F Hs) hk hs hc gh:=by
 refine ⟨ARd.of_row (base:=w.heap.size) (t:=58) (fun r hr=>?_) ?_,fun i hi=>?_,fun i hi=>?_⟩
 ·obtain ⟨i,_,rfl⟩:=List.mem_map.1 hr
  rfl
 ·rw [List.length_map,List.length_range,hd_len]
  exact h.row
 ·rw [hd_len] at hi
  rw [hd_at hi]
  exact hh.hd i hi
 ·rw [hd_len] at hi
  rw [hd_at hi]
  exact ARd.of_pps (h.cs i hi hi)
end
theorem hd_sm {S:Sp} {B:(Th→Int)→Pp→Bool} {F:List Ft} {Hs:List Hn} (h:∀ H∈Hs,HnSm H) (hc:(checkP S).2=0):∀ t∈hdT S B F Hs,HnSm t.h∧t.l.length≤1000000:=fun t ht=>by
 obtain ⟨H,hH,rfl⟩:=List.mem_map.1 ht
 exact ⟨h H hH,Nat.le_trans (List.length_filter_le _ _) (by
  have h1:=allFrom_len (spGood hc).r 0
  have h2:=sp_lens hc
  omega)⟩
def HrdR (S:Sp) (B:(Th→Int)→Pp→Bool) (F:List Ft) (Hs:List Hn) (hk hs hc:Nat→Value) (w:World) (e:Ending) (w':World):Prop :=
 ∃ v b,e = .returned (.tuple #[v,.bool b])∧(b=true→(∀ H∈Hs,hnE S H=0)∧∃ gh,TlRd w' v (hdT S B F Hs) hk hs hc gh∧w'.ownsRow w.heap.size 58 4 v Hs.length (hrC hk hs hc gh Hs.length))∧Below w.heap.size w w'
theorem hrd_no {S:Sp} {B:(Th→Int)→Pp→Bool} {F:List Ft} {Hs:List Hn} {hk hs hc:Nat→Value} {w w':World} (hb:Below w.heap.size w w'):HrdR S B F Hs hk hs hc w (.returned (.tuple #[.slice none 0 0,.bool false])) w':=⟨_,_,rfl,fun h=>absurd h (by decide),hb⟩
set_option maxRecDepth 100000 in
set_option maxHeartbeats 6400000 in
theorem heard_any (v1 v2 v3 v4:Value) (S:Sp) (ok:SpWk S) (fp:Nat→Value) (F:List Ft) (hf0:fltE S F=0) (hFl:F.length≤1000000) (fv:Value) (Hs:List Hn) (hhs:∀ H∈Hs,HnSm H) (hhl:Hs.length≤1000000) (hv:Value) (hk hss hcc:Nat→Value) (B:(Th→Int)→Pp→Bool) (hB:(checkP S).2=0→SndIs S B) (w:World) (hsp:SpRd w v1 v2 v3 v4 fp S) (hfv:ARd w fv 3 (F.map ftC)) (hhv:HnsRd w hv Hs hk hss hcc) :
  Calls Tryz.prog 10 #[.agg #[v1,v2,v3,v4],fv,hv] w (HrdR S B F Hs hk hss hcc w):=by
 obtain ⟨ha,hac,rfl⟩:=hhv.form
 obtain ⟨fa,fc,rfl⟩:=hfv.ftForm
 obtain ⟨i0,hi0,hz0,hz1,hz2⟩:=info_parts dgTrial_info
 have HHV:=Lib.hid hhv
 have HCK:=Lib.hid (fun (i:Nat) (hi:i < Hs.length) (W:World) (hb:Below w.heap.size w W)=>check12_any v1 v2 v3 v4 S ok fp (hk i) (hss i) (hcc i) Hs[i] (hhs _ (List.getElem_mem hi)) W (hsp.later hb) ((hhv.later hb).hd i hi))
 have HHE:=Lib.hid (fun (i:Nat) (hi:i < Hs.length) (W:World) (hb:Below w.heap.size w W)=>hearsW30_any v1 v2 v3 v4 S ok fp (hk i) (hss i) (hcc i) (.slice fa F.length fc) Hs[i] (hhs _ (List.getElem_mem hi)) F hFl B hB W (hsp.later hb) ((hhv.later hb).hd i hi) (hfv.later hb))
 have HE:=Lib.hid (fun (i:Nat) (hi:i < Hs.length) (h:hnE S Hs[i]=0)=>he_in (B:=B) hf0 h)
 have HW0:=Lib.hid (show HrW w v1 v2 v3 v4 (fun H=>hearL S B F (onH H)) Hs hk hss hcc 0 (fun _ => .nilFunc) (.slice none 0 0) (w.alloc (.cells #[v1,v2,v3,v4] 27)) from ⟨(Below.refl _ _).alloc (Nat.le_refl _) _,Blk.new w 27 #[v1,v2,v3,v4],World.ownsRow_nil _ _ _ _,fun i hi=>absurd hi (Nat.not_lt_zero i)⟩)
 have HN0:=Lib.hid (show ∀ i (h:i < Hs.length),i < 0→hnE S Hs[i]=0 from fun i _ h=>absurd h (Nat.not_lt_zero i))
 clear hsp hfv hhv hhs hB ok hf0
 go_enter Tryz.func10,Tryz.ntmps10
 go_wp2
 generalize w.alloc (.cells #[v1,v2,v3,v4] 27)=W0 at *
 go_loopw [8,9] (fun v x wr=>∃ (k:Nat) (gh:Nat→Value),k≤Hs.length∧x = .int .i64 k∧RowKit.Hid (∀ i (h:i < Hs.length),i < k→hnE S Hs[i]=0)∧RowKit.Hid (HrW w v1 v2 v3 v4 (fun H=>hearL S B F (onH H)) Hs hk hss hcc k gh v wr)) (fun _ x _=>Hs.length - (intOf x).toNat)
 case atStart=>exact ⟨0,_,Nat.zero_le _,rfl,HN0,HW0⟩
 clear HN0 HW0
 obtain ⟨k,gh,hkl,rfl,hN,hW⟩:=hrel
 by_cases hkk:k < Hs.length
 ·have hk2:(k:Int) < (Hs.length:Int):=by omega
  obtain ⟨b,o,c',ev,_,q0,q1,q2⟩:=(HHV.out.later hW.out.b).at' hkk
  cases ev
  obtain ⟨⟨ka,kc,ek⟩,⟨sa,sc,es⟩,⟨ca,cc,ec⟩⟩:=((HHV.out.later hW.out.b).hd k hkk).forms
  have HC1:=Lib.hid (HCK.out k hkk)
  have HH1:=Lib.hid (HHE.out k hkk)
  have HE1:=Lib.hid (HE.out k hkk)
  have HNX:=Lib.hid (fun (h:hnE S Hs[k]=0)=>show ∀ i (h:i < Hs.length),i < k + 1→hnE S Hs[i]=0 from fun i hi hl=>by
   by_cases e:i=k
   ·subst e; exact h
   ·exact hN.out i hi (by omega))
  rw [ek,es,ec] at HC1 HH1
  rw [ek] at q0
  rw [es] at q1
  rw [ec] at q2
  obtain ⟨n,hn⟩:∃ n,hnE S Hs[k]=n:=⟨_,rfl⟩
  rw [hn] at HC1 HNX HE1
  obtain ⟨s0,s1,s2,s3⟩:=hW.out.sp.four
  have hdr:=hold7 (W0:=w) ⟨hW.out.b,s0,s1,s2,s3,q0,q1,q2⟩ ((Below.refl _ wr).drew)
  clear s0 s1 s2 s3 q0 q1 q2 hn hN
  obtain ⟨kl,hkl1⟩:∃ kl,Hs[k].ks.length=kl:=⟨_,rfl⟩
  obtain ⟨sl,hsl1⟩:∃ sl,Hs[k].ss.length=sl:=⟨_,rfl⟩
  obtain ⟨cl,hcl1⟩:∃ cl,Hs[k].cs.length=cl:=⟨_,rfl⟩
  rw [hkl1,hsl1,hcl1] at HC1 HH1 hdr
  rw [hkl1] at ek
  rw [hsl1] at es
  rw [hcl1] at ec
  have HEK:=Lib.hid (show hk k=_∧hss k=_∧hcc k=_ from ⟨ek,es,ec⟩)
  clear hkl1 hsl1 hcl1 ek es ec
  go_upto_region 5 with fail
  go_region_held3 (fun w'=>Below w.heap.size w w'∧w'.cell? ⟨w.heap.size,0,none⟩=some v1∧w'.cell? ⟨w.heap.size,1,none⟩=some v2∧w'.cell? ⟨w.heap.size,2,none⟩=some v3∧w'.cell? ⟨w.heap.size,3,none⟩=some v4∧w'.cell? ⟨b,o + k * 3,none⟩=some (.slice ka kl kc)∧w'.cell? ⟨b,o + k * 3 + 1,none⟩=some (.slice sa sl sc)∧w'.cell? ⟨b,o + k * 3 + 2,none⟩=some (.slice ca cl cc)) (first | exact hdr | assumption | fail) (first | (go_at_call 33; (with_reducible refine (HC1.out _ hdr.1).mono ?_); rintro e w3 ⟨rfl,hb3⟩; have hn3:=hold7 hdr hb3; have HW3:=Lib.hid ((hW.out.later (Below.refl _ wr).drew).later hb3)) | fail)
  clear hdr HC1 HCK HHE HE
  by_cases hz:n=0
  case neg =>
   have q1:(n == 0)=false:=by simpa using hz
   have q2:(n != 0)=true:=by simpa using hz
   clear hz hn3 HH1 HE1 HNX
   go_wp2
   go_ret2
   exact hrd_no HW3.out.b
  subst hz
  have HN2:=Lib.hid (HNX.out rfl)
  rw [(HE1.out rfl).1,(HE1.out rfl).2] at HH1
  obtain ⟨m,hm⟩:∃ m,hearL S B F (onH Hs[k])=m:=⟨_,rfl⟩
  rw [hm] at HH1
  have HMM:=Lib.hid hm
  have hdr:=hold7 (W0:=w) hn3 ((Below.refl _ w3).drew)
  clear hn3 HNX HE1 hm hW
  go_upto_region 7 with fail
  go_region_held3 (fun w'=>Below w.heap.size w w'∧w'.cell? ⟨w.heap.size,0,none⟩=some v1∧w'.cell? ⟨w.heap.size,1,none⟩=some v2∧w'.cell? ⟨w.heap.size,2,none⟩=some v3∧w'.cell? ⟨w.heap.size,3,none⟩=some v4∧w'.cell? ⟨b,o + k * 3,none⟩=some (.slice ka kl kc)∧w'.cell? ⟨b,o + k * 3 + 1,none⟩=some (.slice sa sl sc)∧w'.cell? ⟨b,o + k * 3 + 2,none⟩=some (.slice ca cl cc)) (first | exact hdr | assumption | fail) (first | (go_at_call 16; (with_reducible refine (HH1.out _ hdr.1).mono ?_); rintro e w4 ⟨u,rfl,hrow4,hb4⟩; obtain ⟨ua,un,rfl⟩:=own_form hrow4; have hn4:=hold7 hdr hb4; have HW4:=Lib.hid ((HW3.out.later (Below.refl _ w3).drew).later hb4); have HR4:=Lib.hid (row_base hrow4 hdr.1.size); clear hrow4) | fail)
  obtain ⟨_,_,_,_,_,q0,q1,q2⟩:=hn4
  clear hdr HH1 hb4 HW3
  have hsz:=HW4.out.b.size
  go_wp2_with (at_builtin; refine wpList_append_lies _ rfl _ _ 33 rfl w.heap.size 58 i0 _ 4 96 Tryz.underlying33 hi0 hz0 hz1 hz2 rfl (by omega) _ _ _ rfl (HW4.out.row.alloc _) ⟨w4.heap.size,0,none⟩ 1 1 [.slice ka kl kc,.slice sa sl sc,.slice ca cl cc,.slice ua m.length un] rfl rfl (World.news_of_block (cs:=#[.slice ka kl kc,.slice sa sl sc,.slice ca cl cc,.slice ua m.length un]) (t:=58) (fr:=(0,0)) (heap_alloc_new w4 _)) (by simp [Value.oneCell']) (by omega) (by unfold maxLen; omega) (by omega) (by simp; omega) (w4.heap.size + 1) (by simp) ?_; intro gg cap w6 hown6 hgrow6 hat6 hlt6)
  have HW6:=Lib.hid (HW4.out.push hkk HMM.out HR4.out hgrow6 (by rw [HEK.out.1,HEK.out.2.1,HEK.out.2.2]; exact hown6))
  refine ⟨⟨k + 1,_,by omega,by go_num,HN2,HW6⟩,?_⟩
  simp [intOf]
  omega
 ·have hk2:¬ (k:Int) < (Hs.length:Int):=by omega
  have hke:k=Hs.length:=by omega
  rw [hke] at hN hW
  have HR:=Lib.hid (hW.out.rd (HHV.out.later hW.out.b))
  have HAL:=Lib.hid (show ∀ H∈Hs,hnE S H=0 from fun H hH=>by
   obtain ⟨i,hi,rfl⟩:=List.getElem_of_mem hH
   exact hN.out i hi hi)
  clear hke
  go_wp2
  go_ret2
  exact ⟨_,_,rfl,fun _=>⟨HAL.out,_,HR.out,hW.out.row⟩,hW.out.b⟩
end Go.Proofs.YteflhbfgpknabaaGreatDoor
namespace Go.Proofs.YteflhbfgpknabaaGreatDoor
open Go.RowKit
def JD (S d:Nat) (v0:Value) (J:(Nat→Bool)→(Nat→Value)→World→Prop) (ℓ:Nat→Bool) (x:Nat→Value) (z:World):Prop:=J ℓ x z∧(ℓ S=false→x d=v0)
theorem jd_start {S d:Nat} {v0:Value} {J:(Nat→Bool)→(Nat→Value)→World→Prop} {n:Nat} {x:Nat→Value} {w:World} (h:∀ ℓ:Nat→Bool,(∀ k,k < n→ℓ k=false)→J ℓ x w) (hx:x d=v0) (ℓ:Nat→Bool) (hl:∀ k,k < n→ℓ k=false):JD S d v0 J ℓ x w:=⟨h ℓ hl,fun _=>hx⟩
theorem jd_cong {S d:Nat} {v0:Value} {J:(Nat→Bool)→(Nat→Value)→World→Prop} {n:Nat} (hS:S < n) (h:∀ (ℓ ℓ':Nat→Bool) (x:Nat→Value) (w:World),(∀ k,k < n→ℓ k=ℓ' k)→J ℓ x w→J ℓ' x w) (ℓ ℓ':Nat→Bool) (x:Nat→Value) (w:World) (hl:∀ k,k < n→ℓ k=ℓ' k) (hj:JD S d v0 J ℓ x w):JD S d v0 J ℓ' x w:=⟨h ℓ ℓ' x w hl hj.1,fun q=>hj.2 ((hl S hS).trans q)⟩
theorem jd_plain {S d i:Nat} {v0:Value} {J:(Nat→Bool)→(Nat→Value)→World→Prop} {ℓ:Nat→Bool} {x x':Nat→Value} {w w':World} (hj:JD S d v0 J ℓ x w) (h:J (setB ℓ i) x' w') (hS:i≠S) (hx:x' d=x d):JD S d v0 J (setB ℓ i) x' w' :=
 ⟨h,fun q=>by rw [setB,if_neg (fun e=>hS e.symm)] at q; exact hx.trans (hj.2 q)⟩
theorem jd_last {S d:Nat} {v0:Value} {J:(Nat→Bool)→(Nat→Value)→World→Prop} {ℓ:Nat→Bool} {x':Nat→Value} {w':World} (h:J (setB ℓ S) x' w'):JD S d v0 J (setB ℓ S) x' w' :=
 ⟨h,fun q=>by rw [setB,if_pos rfl] at q; cases q⟩
end Go.Proofs.YteflhbfgpknabaaGreatDoor
