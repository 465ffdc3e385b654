/-
  A part of the proof: UN.
-/
import Derived.Test.YteflhbfgpknabaaGreatDoorL14
import Derived.Sort.CutIn
set_option maxRecDepth 100000
set_option maxHeartbeats 12800000
namespace Go.Proofs.YteflhbfgpknabaaGreatDoor
open Go.Lib (hid)
open Go.RowKit Go.Shelf
def CntR (S:Sp) (f:Th→Int) (w:World) (e:Ending) (w':World):Prop:=∃ (OB:Nat) (M:List Pp),e = .returned (.slice (some ⟨OB,0,none⟩) S.rs.length S.rs.length)∧w.heap.size≤OB∧CtI w' OB S.rs.length M∧M.length≤200000∧(∀ p,p∈M↔Snd S f p)∧Below w.heap.size w w'
theorem ARd.ptAt {w:World} {v:Value} {l:List Pt} (h:ARd w v 4 (l.map ptC)) (i:Nat) (hi:i<l.length):∃ b o c,v = .slice (some ⟨b,o,none⟩) l.length c∧b<w.heap.size∧w.cell? ⟨b,o+i * 4,none⟩=some (.int .i64 l[i].rank)∧w.cell? ⟨b,o+i * 4+1,none⟩=some (.int .i64 l[i].shift)∧w.cell? ⟨b,o+i * 4+2,none⟩=some (.int .i64 l[i].lo)∧w.cell? ⟨b,o+i * 4+3,none⟩=some (.int .i64 l[i].hi):=by
 obtain ⟨b,o,c,e,hlt,hc⟩:=h.at i (by simpa using hi)
 rw [List.getElem_map] at hc
 rw [List.length_map] at e
 exact ⟨b,o,c,e,hlt,hc 0 _ rfl,hc 1 _ rfl,hc 2 _ rfl,hc 3 _ rfl⟩
theorem pipe_in {S:Sp} (hc:(checkP S).2=0) {p:Pp} (h:p∈allFrom 0 S.rs):0≤p.1∧p.1<(S.rs.length:Int)∧0≤p.2∧p.2<128:=by
 obtain ⟨k,hk,h1,h2,h3⟩:=mem_allFrom.1 h
 have hr:=(spGood hc).r _ (List.getElem_mem hk)
 unfold rkE at hr
 repeat' split at hr
 all_goals first | omega | cases hr
theorem Deb.putObj {W:World} {l:Nat} {o:Obj} (o':Obj) (h:Deb W) (hl:W.heap[l]?=some o) (ho:o.isCells=false):Deb (W.putObj l o'):=fun j hj=>by
 have h1:=h j hj
 have hne:0≠l:=fun e=>by
  rw [← e] at hl
  unfold World.cell? at h1
  rw [hl] at h1
  cases o <;> simp [Obj.isCells] at ho h1
 unfold World.cell? at *
 rw [World.putObj_heap_other hne]
 exact h1
structure KyI (w:World) (A:AsA) (OB BO:Nat) (v1 v2 v3 v4 vk vs vc:Value) (n nr:Nat) (m:List Pl) (S:Sp) (f:Th→Int) (l:List Int) (x:St) (X:Nat) (vx:Array Value) (Ds:List Nat) (N:Nat) (pre:List NtP) (W:World):Prop where
 ex:∃ M,CtX w w.heap.size (w.heap.size+1) A.ab A.kb A.mb OB BO v1 v2 v3 v4 vk vs vc n nr m M W∧(∀ p,p∈M↔DnP S f l p∨KyP x (pre.map (·.1)) p)∧M.length≤N+pre.length * 12
 mks:MarksOk w.heap.size Ds W
 bx:Blk W X 66 vx
theorem KyI.ownFrom {w:World} {A:AsA} {OB BO:Nat} {v1 v2 v3 v4 vk vs vc:Value} {n nr:Nat} {m:List Pl} {S:Sp} {f:Th→Int} {l:List Int} {x:St} {X:Nat} {vx:Array Value} {Ds:List Nat} {N B:Nat} (hD:∀ D∈Ds,D<B) (hB:w.heap.size≤B):OwnFrom B (KyI w A OB BO v1 v2 v3 v4 vk vs vc n nr m S f l x X vx Ds N):=by
 intro pre W W' row h hg hr
 obtain ⟨⟨M,h1,h2,h3⟩,hm,hx⟩:=h
 refine ⟨⟨M,h1.turn hg (fun r e=>⟨Nat.le_trans hB (hr r e).1,(hr r e).2⟩),h2,h3⟩,hm.keeps fun D hDm=>?_,hx.grown hg fun e=>?_⟩
 ·exact hg.block D (hm.lt hDm) (fun e=>by have:=(hr D e.symm).1;have:=hD D hDm;omega)
 ·obtain ⟨_,o,ho,hc⟩:=hr _ e
  rw [show W.heap[_]?=_ from hx] at ho
  cases ho
  cases hc
theorem marks_ret {F:Fence} {n:Nat} {P:Program} {fn:Func} {R:Ending→World→Prop} {a:Act} {B:Nat} {Ds:List Nat} {W:World} {v:Value} (hm:MarksOk B Ds W) (hd:a.defers=marks Ds) (hr:(results fn a.tmps).run P (cleared W Ds) = .ok v (cleared W Ds)) (hR:R (.returned v) (cleared W Ds)):bodyPostM F n P fn R .ret a W:=by
 show LeavesInM F n P fn a.tmps R a.defers .returning W
 rw [hd]
 exact leaves_marks Ds W hm ⟨v,hr,hR⟩
theorem below_clr {B:Nat}:∀ {Ds:List Nat} {W:World},(∀ D∈Ds,B≤D)→Below B W (cleared W Ds)
 | [],W,_=>Below.refl _ _
 | D :: Ds,W,h=>by
  have hg:=grownBy_putObj' W D (.deferred none)
  refine Below.trans ⟨hg.os,hg.tape,hg.output,hg.size,fun k hk=>World.putObj_heap_other ?_⟩ (below_clr fun E hE=>h E (by simp [hE]))
  intro e
  have:=h D (by simp)
  omega
attribute [local go_sem] Oper.semAt_some
theorem count_in (nn:Nat) (hnn:6≤nn) (v1 v2 v3 v4 vk vs vc:Value) (S:Sp) (hc:(checkP S).2=0) (fp:Nat→Value) (f:Th→Int) (hf:OnOk S f) (w:World) (hD:Deb w) (hsp:SpRd w v1 v2 v3 v4 fp S) (hcap:∀ i,i<S.ss.length→CapOk (fp i)) (hh:HcRd w vk vs vc S f) :
  CallsIn Fence.wide nn Tryz.prog 152 #[.agg #[v1,v2,v3,v4],.agg #[vk,vs,vc]] w (CntR S f w):=by
 refine callsIn_of_wp_marks Tryz.func152 rfl trivial ?_ rfl
 simp only [Tryz.ntmps152,List.size_toArray,List.length_cons,List.length_nil,Nat.reduceAdd,Nat.reduceSub,Array.replicate_succ,Array.replicate_zero,List.push_toArray,List.append_toArray,List.nil_append,List.cons_append]
 obtain ⟨l1,l2,l3,l4⟩:=sp_lens hc
 obtain ⟨_,⟨a2,c2,rfl⟩,⟨a3,c3,rfl⟩,_⟩:=hsp.forms
 obtain ⟨_,⟨as',cs',rfl⟩,_⟩:=hh.forms
 have hmk:=make_counts S.rs.length (by omega)
 have hb0:=below_two w (.cells #[v1,.slice a2 S.rs.length c2,.slice a3 S.ss.length c3,v4] 27) (.cells #[vk,.slice as' (onL f 2 S.ss.length).length cs',vc] 32)
 have HB0:=hid hb0
 have K0:=hid ((Blk.new w 27 #[v1,.slice a2 S.rs.length c2,.slice a3 S.ss.length c3,v4]).alloc (.cells #[vk,.slice as' (onL f 2 S.ss.length).length cs',vc] 32))
 have k1:=Blk.new (w.alloc (.cells #[v1,.slice a2 S.rs.length c2,.slice a3 S.ss.length c3,v4] 27)) 32 #[vk,.slice as' (onL f 2 S.ss.length).length cs',vc]
 rw [World.size_alloc] at k1
 have K1:=hid k1
 have HAC:=hid (fun (W:World) (hb:Below w.heap.size w W)=>actingS_any v1 (.slice a2 S.rs.length c2) (.slice a3 S.ss.length c3) v4 vk (.slice as' (onL f 2 S.ss.length).length cs') vc S hc fp f hf W (hsp.later hb) (hh.later hb))
 have HSP:=hid hsp
 have HH:=hid hh
 have HC:=hid hc
 have HF:=hid hf
 have HD:=hid hD
 have HCAP:=hid hcap
 clear hsp hh hc hf hD k1 hcap
 gi_wp2_with fail
 refine ⟨trivial,?_⟩
 generalize (w.alloc (.cells #[v1,.slice a2 S.rs.length c2,.slice a3 S.ss.length c3,v4] 27)).alloc (.cells #[vk,.slice as' (onL f 2 S.ss.length).length cs',vc] 32)=W0 at *
 refine ⟨(fun _=>(by omega)),?_⟩
 refine (callsIn_wide.2 (HAC.out W0 hb0)).mono ?_
 rintro e W1 ⟨A,m,rfl,hm,hb1,hkb,hks,hab⟩
 obtain ⟨nr,hnr⟩:∃ nr,S.rs.length=nr:=⟨_,rfl⟩
 obtain ⟨n,hn⟩:∃ n,S.ds.length=n:=⟨_,rfl⟩
 obtain ⟨sl,hsl⟩:∃ sl,onL f 2 S.ss.length=sl:=⟨_,rfl⟩
 have HNR:=hid hnr
 have HN:=hid hn
 have HSL:=hid hsl
 have HSO:=hid (show ∀ W',Below w.heap.size w W'→ARd W' (.slice as' sl.length cs') 1 (sl.map iC) from fun W' hb=>by have:=(HH.out.later hb).stops;rw [hsl] at this;exact this)
 have HON:=hid (show ∀ x∈sl,∃ i:Nat,i<S.ss.length∧x=(i:Int)∧f (2,0,(i:Int))=1 from fun x hx=>by
  rw [← hsl] at hx
  obtain ⟨h1,h2,h3⟩:=mem_onL.1 hx
  obtain ⟨i,rfl⟩:=Int.eq_ofNat_of_zero_le h1
  exact ⟨i,by omega,rfl,h3⟩)
 have HSN:=hid (show sl.length≤80 by rw [← hsl];have:=len_onL f 2 S.ss.length;omega)
 rw [hnr] at hmk l2
 rw [hn] at hks hab l1
 have hB1:=below_step HB0.out hb1
 have x1:W1.cell? ⟨w.heap.size,1,none⟩=some (.slice a2 nr c2):=by rw [← hnr];exact (K0.out.below hb1).cell 1
 have y1:(W1.alloc (.cells (madeCells (Array.replicate 128 (.int .i64 0)) (nr * 128)) 208)).cell? ⟨w.heap.size,1,none⟩=some (.slice a2 nr c2):=cell_alloc x1 _
 have z1:((W1.alloc (.cells (madeCells (Array.replicate 128 (.int .i64 0)) (nr * 128)) 208)).alloc (.cells #[.slice (some ⟨W1.heap.size,0,none⟩) nr nr] 206)).cell? ⟨w.heap.size+1,1,none⟩=some (.slice as' sl.length cs'):=cell_alloc (cell_alloc (by rw [← hsl];exact (K1.out.below hb1).cell 1) _) _
 have hb2:Below W1.heap.size W1 ((W1.alloc (.cells (madeCells (Array.replicate 128 (.int .i64 0)) (nr * 128)) 208)).alloc (.cells #[.slice (some ⟨W1.heap.size,0,none⟩) nr nr] 206)):=((Below.refl _ _).alloc (Nat.le_refl _) _).alloc (by simp) _
 have hbo:=Blk.new (W1.alloc (.cells (madeCells (Array.replicate 128 (.int .i64 0)) (nr * 128)) 208)) 206 #[.slice (some ⟨W1.heap.size,0,none⟩) nr nr]
 rw [World.size_alloc] at hbo
 have HX:=hid (show CtX w w.heap.size (w.heap.size+1) A.ab A.kb A.mb W1.heap.size (W1.heap.size+1) v1 (.slice a2 nr c2) (.slice a3 S.ss.length c3) v4 vk (.slice as' sl.length cs') vc n nr m [] ((W1.alloc (.cells (madeCells (Array.replicate 128 (.int .i64 0)) (nr * 128)) 208)).alloc (.cells #[.slice (some ⟨W1.heap.size,0,none⟩) nr nr] 206)) from
  ⟨below_step hB1 hb2,hB1.size,by rw [← hnr];exact (K0.out.below hb1).below (by rw [hnr];exact hb2),by rw [← hsl];exact (K1.out.below hb1).below hb2,hab.below hb2,hks.below hb2,(CtI.start W1 nr).below ((Below.refl _ _).alloc (Nat.le_refl _) _),hbo⟩)
 have HM:=hid hm
 have HB1:=hid hB1
 have HSZ:=hid (show ((W1.alloc (.cells (madeCells (Array.replicate 128 (.int .i64 0)) (nr * 128)) 208)).alloc (.cells #[.slice (some ⟨W1.heap.size,0,none⟩) nr nr] 206)).heap.size=W1.heap.size+1+1 by simp)
 rw [hnr,hsl]
 clear hnr hn hsl hm hb1 hkb hks hab hB1 hb2 hbo K0 K1 HB0 HAC hb0
 gi_wp2
 generalize (W1.alloc (.cells (madeCells (Array.replicate 128 (.int .i64 0)) (nr * 128)) 208)).alloc (.cells #[.slice (some ⟨W1.heap.size,0,none⟩) nr nr] 206)=W2 at *
 have HMK:=hid (MarksOk.nil w.heap.size W2)
 have HQ0:=hid (show ∀ p,p∈([]:List Pp)↔DnP S f (sl.take 0) p from fun p=>by
  constructor
  ·intro h;cases h
  ·rintro ⟨_,_,h,_⟩
   simp at h)
 clear HSZ
 refine wpIn_loop (fun a wr=>∃ (u8 u9 u10 u11 u12 u13 u14 u25 u26 u27 u28 u29 u30 u31 u32 u33 u34 u35 u36 u37 u38 u39 u40 u41 u42 u43 u44 u45 u46 u47 u48 u49 u50 u51 u52 u53 u54 u55 u56 u57 u58 u59 u60 u61 u62 u63 u64 u65 u66 u67 u68 u69 u70 u71 u72 u73 u74 u75 u76 u77 u78 u79 u80 u81 u82 u83 u84 u85 u86 u87 u88 u89 u90 u91 u92 u93 u94 u95 u96 u97 u98 u99 u100 u101 u102 u103 u104 u105 u106 u107 u108 u109 u110:Value) (Ds:List Nat),(∃ (k:Nat) (M:List Pp),k≤sl.length∧u25 = .int .i64 k∧Hid (CtX w w.heap.size (w.heap.size+1) A.ab A.kb A.mb W1.heap.size (W1.heap.size+1) v1 (.slice a2 nr c2) (.slice a3 S.ss.length c3) v4 vk (.slice as' sl.length cs') vc n nr m M wr)∧Hid (∀ p,p∈M↔DnP S f (sl.take k) p)∧M.length≤k * 1600∧Hid (MarksOk w.heap.size Ds wr))∧a={ tmps:=#[.agg #[v1,.slice a2 nr c2,.slice a3 S.ss.length c3,v4],.agg #[vk,.slice as' sl.length cs',vc],.pointer (some ⟨w.heap.size,0,none⟩),.pointer (some ⟨w.heap.size+1,0,none⟩),.slice none 0 0,.pointer (some ⟨A.ab,0,none⟩),.pointer (some ⟨W1.heap.size+1,0,none⟩),undef,u8,u9,u10,u11,u12,u13,u14,.agg #[v1,.slice a2 nr c2,.slice a3 S.ss.length c3,v4],.agg #[vk,.slice as' sl.length cs',vc],.pointer (some ⟨A.ab,0,none⟩),.pointer (some ⟨w.heap.size,1,none⟩),.slice a2 nr c2,.int .i64 (nr:Int),.slice (some ⟨W1.heap.size,0,none⟩) nr nr,.pointer (some ⟨w.heap.size+1,1,none⟩),.slice as' sl.length cs',.int .i64 (sl.length:Int),u25,u26,u27,u28,u29,u30,u31,u32,u33,u34,u35,u36,u37,u38,u39,u40,u41,u42,u43,u44,u45,u46,u47,u48,u49,u50,u51,u52,u53,u54,u55,u56,u57,u58,u59,u60,u61,u62,u63,u64,u65,u66,u67,u68,u69,u70,u71,u72,u73,u74,u75,u76,u77,u78,u79,u80,u81,u82,u83,u84,u85,u86,u87,u88,u89,u90,u91,u92,u93,u94,u95,u96,u97,u98,u99,u100,u101,u102,u103,u104,u105,u106,u107,u108,u109,u110,undef],defers:=marks Ds }) (fun a _=>sl.length-(intOf (a.tmps.getD 25 undef)).toNat) ?_ ?_
 ·repeat apply Exists.intro
  exact ⟨⟨0,[],Nat.zero_le _,rfl,HX,HQ0,Nat.zero_le _,HMK⟩,rfl⟩
 ·intro _ wr hinv
  clear HX HQ0 HMK
  refine Exists.elim hinv ?_
  clear hinv
  intro u8 hinv
  refine Exists.elim hinv ?_
  clear hinv
  intro u9 hinv
  refine Exists.elim hinv ?_
  clear hinv
  intro u10 hinv
  refine Exists.elim hinv ?_
  clear hinv
  intro u11 hinv
  refine Exists.elim hinv ?_
  clear hinv
  intro u12 hinv
  refine Exists.elim hinv ?_
  clear hinv
  intro u13 hinv
  refine Exists.elim hinv ?_
  clear hinv
  intro u14 hinv
  refine Exists.elim hinv ?_
  clear hinv
  intro u25 hinv
  refine Exists.elim hinv ?_
  clear hinv
  intro u26 hinv
  refine Exists.elim hinv ?_
  clear hinv
  intro u27 hinv
  refine Exists.elim hinv ?_
  clear hinv
  intro u28 hinv
  refine Exists.elim hinv ?_
  clear hinv
  intro u29 hinv
  refine Exists.elim hinv ?_
  clear hinv
  intro u30 hinv
  refine Exists.elim hinv ?_
  clear hinv
  intro u31 hinv
  refine Exists.elim hinv ?_
  clear hinv
  intro u32 hinv
  refine Exists.elim hinv ?_
  clear hinv
  intro u33 hinv
  refine Exists.elim hinv ?_
  clear hinv
  intro u34 hinv
  refine Exists.elim hinv ?_
  clear hinv
  intro u35 hinv
  refine Exists.elim hinv ?_
  clear hinv
  intro u36 hinv
  refine Exists.elim hinv ?_
  clear hinv
  intro u37 hinv
  refine Exists.elim hinv ?_
  clear hinv
  intro u38 hinv
  refine Exists.elim hinv ?_
  clear hinv
  intro u39 hinv
  refine Exists.elim hinv ?_
  clear hinv
  intro u40 hinv
  refine Exists.elim hinv ?_
  clear hinv
  intro u41 hinv
  refine Exists.elim hinv ?_
  clear hinv
  intro u42 hinv
  refine Exists.elim hinv ?_
  clear hinv
  intro u43 hinv
  refine Exists.elim hinv ?_
  clear hinv
  intro u44 hinv
  refine Exists.elim hinv ?_
  clear hinv
  intro u45 hinv
  refine Exists.elim hinv ?_
  clear hinv
  intro u46 hinv
  refine Exists.elim hinv ?_
  clear hinv
  intro u47 hinv
  refine Exists.elim hinv ?_
  clear hinv
  intro u48 hinv
  refine Exists.elim hinv ?_
  clear hinv
  intro u49 hinv
  refine Exists.elim hinv ?_
  clear hinv
  intro u50 hinv
  refine Exists.elim hinv ?_
  clear hinv
  intro u51 hinv
  refine Exists.elim hinv ?_
  clear hinv
  intro u52 hinv
  refine Exists.elim hinv ?_
  clear hinv
  intro u53 hinv
  refine Exists.elim hinv ?_
  clear hinv
  intro u54 hinv
  refine Exists.elim hinv ?_
  clear hinv
  intro u55 hinv
  refine Exists.elim hinv ?_
  clear hinv
  intro u56 hinv
  refine Exists.elim hinv ?_
  clear hinv
  intro u57 hinv
  refine Exists.elim hinv ?_
  clear hinv
  intro u58 hinv
  refine Exists.elim hinv ?_
  clear hinv
  intro u59 hinv
  refine Exists.elim hinv ?_
  clear hinv
  intro u60 hinv
  refine Exists.elim hinv ?_
  clear hinv
  intro u61 hinv
  refine Exists.elim hinv ?_
  clear hinv
  intro u62 hinv
  refine Exists.elim hinv ?_
  clear hinv
  intro u63 hinv
  refine Exists.elim hinv ?_
  clear hinv
  intro u64 hinv
  refine Exists.elim hinv ?_
  clear hinv
  intro u65 hinv
  refine Exists.elim hinv ?_
  clear hinv
  intro u66 hinv
  refine Exists.elim hinv ?_
  clear hinv
  intro u67 hinv
  refine Exists.elim hinv ?_
  clear hinv
  intro u68 hinv
  refine Exists.elim hinv ?_
  clear hinv
  intro u69 hinv
  refine Exists.elim hinv ?_
  clear hinv
  intro u70 hinv
  refine Exists.elim hinv ?_
  clear hinv
  intro u71 hinv
  refine Exists.elim hinv ?_
  clear hinv
  intro u72 hinv
  refine Exists.elim hinv ?_
  clear hinv
  intro u73 hinv
  refine Exists.elim hinv ?_
  clear hinv
  intro u74 hinv
  refine Exists.elim hinv ?_
  clear hinv
  intro u75 hinv
  refine Exists.elim hinv ?_
  clear hinv
  intro u76 hinv
  refine Exists.elim hinv ?_
  clear hinv
  intro u77 hinv
  refine Exists.elim hinv ?_
  clear hinv
  intro u78 hinv
  refine Exists.elim hinv ?_
  clear hinv
  intro u79 hinv
  refine Exists.elim hinv ?_
  clear hinv
  intro u80 hinv
  refine Exists.elim hinv ?_
  clear hinv
  intro u81 hinv
  refine Exists.elim hinv ?_
  clear hinv
  intro u82 hinv
  refine Exists.elim hinv ?_
  clear hinv
  intro u83 hinv
  refine Exists.elim hinv ?_
  clear hinv
  intro u84 hinv
  refine Exists.elim hinv ?_
  clear hinv
  intro u85 hinv
  refine Exists.elim hinv ?_
  clear hinv
  intro u86 hinv
  refine Exists.elim hinv ?_
  clear hinv
  intro u87 hinv
  refine Exists.elim hinv ?_
  clear hinv
  intro u88 hinv
  refine Exists.elim hinv ?_
  clear hinv
  intro u89 hinv
  refine Exists.elim hinv ?_
  clear hinv
  intro u90 hinv
  refine Exists.elim hinv ?_
  clear hinv
  intro u91 hinv
  refine Exists.elim hinv ?_
  clear hinv
  intro u92 hinv
  refine Exists.elim hinv ?_
  clear hinv
  intro u93 hinv
  refine Exists.elim hinv ?_
  clear hinv
  intro u94 hinv
  refine Exists.elim hinv ?_
  clear hinv
  intro u95 hinv
  refine Exists.elim hinv ?_
  clear hinv
  intro u96 hinv
  refine Exists.elim hinv ?_
  clear hinv
  intro u97 hinv
  refine Exists.elim hinv ?_
  clear hinv
  intro u98 hinv
  refine Exists.elim hinv ?_
  clear hinv
  intro u99 hinv
  refine Exists.elim hinv ?_
  clear hinv
  intro u100 hinv
  refine Exists.elim hinv ?_
  clear hinv
  intro u101 hinv
  refine Exists.elim hinv ?_
  clear hinv
  intro u102 hinv
  refine Exists.elim hinv ?_
  clear hinv
  intro u103 hinv
  refine Exists.elim hinv ?_
  clear hinv
  intro u104 hinv
  refine Exists.elim hinv ?_
  clear hinv
  intro u105 hinv
  refine Exists.elim hinv ?_
  clear hinv
  intro u106 hinv
  refine Exists.elim hinv ?_
  clear hinv
  intro u107 hinv
  refine Exists.elim hinv ?_
  clear hinv
  intro u108 hinv
  refine Exists.elim hinv ?_
  clear hinv
  intro u109 hinv
  refine Exists.elim hinv ?_
  clear hinv
  intro u110 hinv
  obtain ⟨Ds,⟨k,M,hk,rfl,hX,hQ,hml,hDs⟩,ha⟩:=hinv
  subst ha
  by_cases hkl:k<sl.length
  ·have hk2:(k:Int)<(sl.length:Int):=by omega
   obtain ⟨b5,o5,c5,ev,hbl5,k5⟩:=(HSO.out wr hX.out.b).intAt k hkl
   cases ev
   obtain ⟨i,hi,hin,hon⟩:=HON.out _ (List.getElem_mem hkl)
   have HTK:=hid (show sl.take (k+1)=sl.take k++[(i:Int)] by rw [List.take_succ_eq_append_getElem hkl,hin])
   rw [hin] at k5
   obtain ⟨b,o,c',ev,hbl,r0,r1,r2,r3,r4⟩:=HSP.out.sAt i hi
   cases ev
   have HPT:=hid (fun (W':World) (hb:Below w.heap.size w W')=>(HSP.out.later hb).p i hi)
   have hcap:=HCAP.out i hi
   obtain ⟨hdv0,hdv1,hpl0,hpl⟩:=(spGood HC.out).s _ (List.getElem_mem hi)
   have HPP:=hid (fun (key:Int) (p:Pp) (h:playsB S.ss[i] key p=true)=>(spGood HC.out).plays (List.getElem_mem hi) (key:=key) p (by rw [mem_playsL];exact h))
   obtain ⟨pa,pc,epv⟩:=(HSP.out.p i hi).form
   rw [List.length_map] at epv
   have hcp:=hcap _ _ _ epv
   rw [epv] at r4 HPT
   have HDN:=hid (fun (q:Rw) (hm:∀ x,x∈m↔Acts S f x) (hq:SetIs q fun t=>decide ((S.ss[i].div,(t:Int))∈m)) (p:Pp)=>DnP_next (l:=sl.take k) hi hm hq (fun key hA=>by
    have:=keyOk_lt (spGood HC.out).ds (spGood HC.out).d (acts_ok HF.out _ hA)
    simp only at this
    omega) p)
   rw [← HTK.out] at HDN
   obtain ⟨x,hx⟩:∃ x,S.ss[i]=x:=⟨_,rfl⟩
   rw [hx] at r0 r1 r2 r3 r4 HPT hdv0 hdv1 hpl0 hpl HPP HDN hcp
   obtain ⟨d,hd⟩:=Int.eq_ofNat_of_zero_le hdv0
   rw [hd] at r1 HDN
   have hdn:d<n:=by rw [hd,HN.out] at hdv1;omega
   replace r0:=(hX.out.b.cell hbl).trans r0
   replace r1:=(hX.out.b.cell hbl).trans r1
   replace r2:=(hX.out.b.cell hbl).trans r2
   replace r3:=(hX.out.b.cell hbl).trans r3
   replace r4:=(hX.out.b.cell hbl).trans r4
   have hi2:(i:Int)<(S.ss.length:Int):=by omega
   have hs2:wr.cell? ⟨w.heap.size,2,none⟩=some (.slice (some ⟨b,o,none⟩) S.ss.length c3):=hX.out.sp.cell 2
   obtain ⟨nm,hnm⟩:∃ y,x.name=y:=⟨_,rfl⟩
   obtain ⟨fnum,hnu⟩:∃ y,x.num=y:=⟨_,rfl⟩
   obtain ⟨fden,hde⟩:∃ y,x.den=y:=⟨_,rfl⟩
   obtain ⟨np,hnp⟩:∃ y,x.parts.length=y:=⟨_,rfl⟩
   rw [hnm] at r0
   rw [hnu] at r2
   rw [hde] at r3
   rw [hnp] at r4 hpl0 hpl hcp HPT
   have HNP:=hid hnp
   clear hnm hnu hde hnp hd hdv1 hdv0 hx epv hin hcap
   gi_upto_region 7 with fail
   have hb3:Below wr.heap.size wr (wr.alloc (.cells #[.string nm,.int .i64 d,.int .i64 fnum,.int .i64 fden,.slice pa np pc] 66)):=(Below.refl _ wr).alloc (Nat.le_refl _) _
   have HX3:=hid (hX.out.low hb3)
   have HM3:=hid (hDs.out.below hb3)
   have HB3:=hid (Blk.new wr 66 #[.string nm,.int .i64 d,.int .i64 fnum,.int .i64 fden,.slice pa np pc])
   obtain ⟨X,hXe⟩:∃ X,wr.heap.size=X:=⟨_,rfl⟩
   rw [hXe] at HB3 ⊢
   generalize wr.alloc (.cells #[.string nm,.int .i64 d,.int .i64 fnum,.int .i64 fden,.slice pa np pc] 66)=W3 at *
   clear r0 r1 r2 r3 r4 hs2 hb3 k5 hX hDs hbl hbl5
   obtain ⟨q,g0,g1,hq⟩:=HX3.out.ks.at' hdn
   have HDQ:=hid (HDN.out q HM.out hq)
   have HRQ:=hid hq.1
   have ab0:W3.cell? ⟨A.ab,0,none⟩=some (.slice (some ⟨A.kb,0,none⟩) n n):=HX3.out.ab.cell 0
   have s1:W3.cell? ⟨X,1,none⟩=some (.int .i64 d):=HB3.out.cell 1
   have hd2:(d:Int)<(n:Int):=by omega
   have hmx:Tryz.prog.follows .mixedOrders=true:=by kernel_rfl
   clear hq HDN
   refine wpIn_region_still_tail 8 hmx (by kernel_rfl) ?_
   simp only [List.take_succ_cons,List.take_zero,List.drop_succ_cons,List.drop_zero]
   repeat still_step
   refine wpStill_nil ?_
   change wpListIn _ _ _ _ _ _ _ W3.drew
   have hb4:Below W3.heap.size W3 W3.drew:=(Below.refl _ W3).drew
   have HX4:=hid (HX3.out.low hb4)
   have HM4:=hid (HM3.out.below hb4)
   have HB4:=hid (HB3.out.below hb4)
   clear hb4 HX3 HM3 HB3 g0 g1 ab0 s1
   generalize W3.drew=W4 at *
   gi_wp2_with fail
   refine ⟨trivial,(fun _=>by omega),?_⟩
   refine (callsIn_wide.2 (all_any q.1 q.2 _)).mono ?_
   rintro e W5 ⟨rfl,rfl⟩
   have hb5:Below W4.heap.size W4 (W4.alloc (.cells #[.int .u64 q.1,.int .u64 q.2] 202)):=(Below.refl _ W4).alloc (Nat.le_refl _) _
   have HX5:=hid (HX4.out.low hb5)
   have HM5:=hid (HM4.out.below hb5)
   have HB5:=hid (HB4.out.below hb5)
   have HQX:=Blk.new W4 202 #[.int .u64 q.1,.int .u64 q.2]
   obtain ⟨Q,hQe⟩:∃ Q,W4.heap.size=Q:=⟨_,rfl⟩
   rw [hQe] at HQX ⊢
   generalize W4.alloc (.cells #[.int .u64 q.1,.int .u64 q.2] 202)=W5 at *
   have HQB:=hid HQX
   have H0:=hid (show KyI w A W1.heap.size (W1.heap.size+1) v1 (.slice a2 nr c2) (.slice (some ⟨b,o,none⟩) S.ss.length c3) v4 vk (.slice (some ⟨b5,o5,none⟩) sl.length cs') vc n nr m S f (sl.take k) x X #[.string nm,.int .i64 d,.int .i64 fnum,.int .i64 fden,.slice pa np pc] Ds (k * 1600) [] W5 from
    ⟨⟨M,HX5.out,fun p=>by rw [hQ.out p];exact ⟨.inl,fun h=>h.elim id (fun ⟨t,ht,_⟩=>by simp at ht)⟩,by omega⟩,HM5.out,HB5.out⟩)
   have HDS:=hid (show ∀ D∈Ds,D<W5.heap.size from fun D hD=>HM5.out.lt hD)
   have HDB:=hid (HD.out.below HX5.out.b)
   have hszw:=HX5.out.b.size
   have HKT:=hid (show ∀ W',Below w.heap.size w W'→Deb W' from fun W' hb=>HD.out.below hb)
   clear hb5 HX4 HM4 HB4 HQX hQe HX5 HM5 HB5 hQ
   gi_wp2_with fail
   refine' wpIn_rangeFunc_ownG (a₁:=_) rfl (by omega) (gf:=181) (lb:=#[.pointer (some ⟨Q,0,none⟩)]) rfl trivial (enters_of Tryz.func181 (by kernel_rfl) rfl)
    (all_stops (nn-1) (by omega) Q q HRQ.out (fun X Y=>Deb X→Deb Y) (fun _ _ h=>h) W5 HDB.out HQB.out)
    (fun h k s=>k (h s)) (fun _ _ _ o' _ h1 h2 _ s=>s.putObj o' h1 h2) (Below.refl _ _) (fun _=>rfl)
    (KyI w A W1.heap.size (W1.heap.size+1) v1 (.slice a2 nr c2) (.slice (some ⟨b,o,none⟩) S.ss.length c3) v4 vk (.slice (some ⟨b5,o5,none⟩) sl.length cs') vc n nr m S f (sl.take k) x X #[.string nm,.int .i64 d,.int .i64 fnum,.int .i64 fden,.slice pa np pc] Ds (k * 1600)) (fun _ _ _=>False) (KyI.ownFrom HDS.out hszw) (fun _ _ _ _ _ hs _ _=>hs) H0.out ?assign ?body ?done ?stop
   case assign =>
    intro l x W K hK
    dsimp only [ntE]
    gi_wp2
    exact hK
   case body =>
    rintro l pre y W hR hlp
    obtain ⟨t,hte⟩:∃ t,y.1=t:=⟨_,rfl⟩
    have ht:t<128:=by rw [← hte];exact y.2
    have hpn:pre.length<128:=Nat.lt_of_lt_of_le hlp (nts_len q)
    have HTE:=hid hte
    rw [hte]
    obtain ⟨M,hX,hQm,hMl⟩:=hR.ex
    have hbx:W.cell? ⟨X,4,none⟩=some (.slice pa np pc):=hR.bx.cell 4
    have HXm:=hid hX
    have HMm:=hid hR.mks
    have HBm:=hid hR.bx
    have HKm:=hid (KeepsOthers.refl W)
    have HQm:=hid (show ∀ p,p∈M↔(DnP S f (sl.take k) p∨KyP x (pre.map (·.1)) p)∨PtP x (t:Int) 0 p from fun p=>by rw [hQm p];exact ⟨.inl,fun h=>h.elim id (fun h=>absurd h (PtP_zero _ _ _))⟩)
    have hml0:M.length≤k * 1600+pre.length * 12+0:=by omega
    clear hR hX hQm hMl hlp hte
    gi_wp2
    refine wpIn_scope_straight (wpIn_seq (wpIn_label ?_))
    show Code.wpIn _ _ _ _ _ _ _
    gi_wp2
    clear hbx
    gi_loopw [47] (fun z wr=>∃ (j:Nat) (M:List Pp),j≤np∧z = .int .i64 j∧Hid (CtX w w.heap.size (w.heap.size+1) A.ab A.kb A.mb W1.heap.size (W1.heap.size+1) v1 (.slice a2 nr c2) (.slice (some ⟨b,o,none⟩) S.ss.length c3) v4 vk (.slice (some ⟨b5,o5,none⟩) sl.length cs') vc n nr m M wr)∧Hid (∀ p,p∈M↔(DnP S f (sl.take k) p∨KyP x (pre.map (·.1)) p)∨PtP x (t:Int) j p)∧M.length≤k * 1600+pre.length * 12+j∧Hid (MarksOk w.heap.size Ds wr)∧Hid (Blk wr X 66 #[.string nm,.int .i64 d,.int .i64 fnum,.int .i64 fden,.slice pa np pc])∧Hid (KeepsOthers W wr)) (fun z _=>np-(intOf z).toNat)
    case atStart=>exact ⟨0,M,Nat.zero_le _,rfl,HXm,HQm,hml0,HMm,HBm,HKm⟩
    case round =>
     clear HXm HQm HMm HBm HKm hml0
     obtain ⟨j,M,hj,rfl,hX,hQm,hMl,hMm,hBm,hKm⟩:=hrel
     by_cases hjl:j<np
     ·have hj2:(j:Int)<(np:Int):=by omega
      have hjp:j<x.parts.length:=by rw [HNP.out];exact hjl
      obtain ⟨bp,op,cp',ev,hbp,q0,q1,q2,q3⟩:=(HPT.out wr hX.out.b).ptAt j hjp
      rw [HNP.out] at ev
      cases ev
      have HNX:=hid (fun (p:Pp)=>PtP_next (x:=x) (key:=(t:Int)) hjp p)
      have HCI:=hid (show x.parts[j].lo≤(t:Int)→(t:Int)≤x.parts[j].hi→(0≤x.parts[j].rank∧x.parts[j].rank<(nr:Int)∧0≤(t:Int)+x.parts[j].shift∧(t:Int)+x.parts[j].shift<128) from fun h1 h2=>by
       have h3:=HPP.out (t:Int) (x.parts[j].rank,(t:Int)+x.parts[j].shift) (by
        unfold playsB
        rw [List.any_eq_true]
        exact ⟨_,List.getElem_mem hjp,by simp [h1,h2]⟩)
       have h4:=pipe_in HC.out h3
       rw [HNR.out] at h4
       exact h4)
      have HDU:=hid (fun (z:Pt) (hz:z∈x.parts.take j) (e1:z.rank=x.parts[j].rank) (e2:z.shift=x.parts[j].shift) (e3:z.lo≤(t:Int)) (e4:(t:Int)≤z.hi) (p:Pp) (h:covB x.parts[j] (t:Int) p=true)=>cov_dup2 hz e1 e2 e3 e4 p h)
      have HCO:=hid (fun (h:(t:Int)<x.parts[j].lo∨x.parts[j].hi<(t:Int)) (p:Pp)=>cov_out (y:=x.parts[j]) h p)
      have HCN:=hid (fun (h1:x.parts[j].lo≤(t:Int)) (h2:(t:Int)≤x.parts[j].hi) (p:Pp)=>cov_in (y:=x.parts[j]) h1 h2 p)
      obtain ⟨y,hy⟩:∃ y,x.parts[j]=y:=⟨_,rfl⟩
      rw [hy] at q0 q1 q2 q3 HNX HCI HCO HCN HDU
      obtain ⟨rk,hrk⟩:∃ z,y.rank=z:=⟨_,rfl⟩
      obtain ⟨sh,hsh⟩:∃ z,y.shift=z:=⟨_,rfl⟩
      obtain ⟨lo,hlo⟩:∃ z,y.lo=z:=⟨_,rfl⟩
      obtain ⟨hi',hhi⟩:∃ z,y.hi=z:=⟨_,rfl⟩
      rw [hrk] at q0 HCI HCN HDU
      rw [hsh] at q1 HCI HCN HDU
      rw [hlo] at q2 HCI HCO HCN
      rw [hhi] at q3 HCI HCO HCN
      clear hy hrk hsh hlo hhi hjp hbp
      gi_upto_region 12 with fail
      have hb6:Below wr.heap.size wr (wr.alloc (.cells #[.int .i64 rk,.int .i64 sh,.int .i64 lo,.int .i64 hi'] 105)):=(Below.refl _ wr).alloc (Nat.le_refl _) _
      have HX6:=hid (hX.out.low hb6)
      have HM6:=hid (hMm.out.below hb6)
      have HB6:=hid (hBm.out.below hb6)
      have HK6:=hid (hKm.out.trans (KeepsOthers.alloc wr (.cells #[.int .i64 rk,.int .i64 sh,.int .i64 lo,.int .i64 hi'] 105)))
      have HY6:=hid (Blk.new wr 105 #[.int .i64 rk,.int .i64 sh,.int .i64 lo,.int .i64 hi'])
      obtain ⟨Y,hYe⟩:∃ Y,wr.heap.size=Y:=⟨_,rfl⟩
      rw [hYe] at HY6 ⊢
      generalize wr.alloc (.cells #[.int .i64 rk,.int .i64 sh,.int .i64 lo,.int .i64 hi'] 105)=W6 at *
      have y2:W6.cell? ⟨Y,2,none⟩=some (.int .i64 lo):=HY6.out.cell 2
      have y3:W6.cell? ⟨Y,3,none⟩=some (.int .i64 hi'):=HY6.out.cell 3
      clear hb6 hX hMm hBm hKm q0 q1 q2 q3 hYe
      by_cases c1:(t:Int)<lo
      ·have d1:decide ((t:Int)<lo)=true:=decide_eq_true c1
       have HQN:=hid (show ∀ p,p∈M↔(DnP S f (sl.take k) p∨KyP x (pre.map (·.1)) p)∨PtP x (t:Int) (j+1) p from fun p=>by rw [hQm.out p,HNX.out p,HCO.out (.inl c1) p];simp)
       clear c1 hQm
       gi_wp2
       go_roundw
       case rel=>exact ⟨j+1,M,by omega,by go_num,HX6,HQN,by omega,HM6,HB6,HK6⟩
       case measure=>simp [intOf];omega
      have d1:decide ((t:Int)<lo)=false:=decide_eq_false c1
      by_cases c2:hi'<(t:Int)
      ·have d2:decide (hi'<(t:Int))=true:=decide_eq_true c2
       have HQN:=hid (show ∀ p,p∈M↔(DnP S f (sl.take k) p∨KyP x (pre.map (·.1)) p)∨PtP x (t:Int) (j+1) p from fun p=>by rw [hQm.out p,HNX.out p,HCO.out (.inr c2) p];simp)
       clear c1 c2 hQm
       gi_wp2
       go_roundw
       case rel=>exact ⟨j+1,M,by omega,by go_num,HX6,HQN,by omega,HM6,HB6,HK6⟩
       case measure=>simp [intOf];omega
      have d2:decide (hi'<(t:Int))=false:=decide_eq_false c2
      obtain ⟨u1,u2,u3,u4⟩:=HCI.out (by omega) (by omega)
      have HCN2:=hid (HCN.out (by omega) (by omega))
      have bx4:W6.cell? ⟨X,4,none⟩=some (.slice (some ⟨bp,op,none⟩) np pc):=HB6.out.cell 4
      have hjc:(j:Int)≤(pc:Int):=by omega
      have hjc2:j≤pc:=by omega
      clear HCI HCO HCN c1 c2
      gi_wp2
      clear bx4 y2 y3
      gi_loopw [67] (fun z wr=>∃ i2:Nat,i2≤j∧z = .int .i64 i2∧Hid (CtX w w.heap.size (w.heap.size+1) A.ab A.kb A.mb W1.heap.size (W1.heap.size+1) v1 (.slice a2 nr c2) (.slice (some ⟨b,o,none⟩) S.ss.length c3) v4 vk (.slice (some ⟨b5,o5,none⟩) sl.length cs') vc n nr m M wr)∧Hid (MarksOk w.heap.size Ds wr)∧Hid (Blk wr X 66 #[.string nm,.int .i64 d,.int .i64 fnum,.int .i64 fden,.slice (some ⟨bp,op,none⟩) np pc])∧Hid (Blk wr Y 105 #[.int .i64 rk,.int .i64 sh,.int .i64 lo,.int .i64 hi'])∧Hid (KeepsOthers W wr)) (fun z _=>j-(intOf z).toNat)
      case atStart=>exact ⟨0,Nat.zero_le _,rfl,HX6,HM6,HB6,HY6,HK6⟩
      case round =>
       clear HX6 HM6 HB6 HY6 HK6
       obtain ⟨i2,hi2',rfl,hX,hMm,hBm,hYm,hKm⟩:=hrel
       by_cases hil:i2<j
       ·have hj3:(i2:Int)<(j:Int):=by omega
        have hip:i2<x.parts.length:=by rw [HNP.out];omega
        obtain ⟨bp2,op2,cp2,ev,hbp,q0,q1,q2,q3⟩:=(HPT.out wr hX.out.b).ptAt i2 hip
        rw [HNP.out] at ev
        cases ev
        have HTK2:=hid (show x.parts[i2]∈x.parts.take j from by rw [List.mem_take_iff_getElem];exact ⟨i2,by omega,rfl⟩)
        obtain ⟨zz,hzz⟩:∃ zz,x.parts[i2]=zz:=⟨_,rfl⟩
        rw [hzz] at q0 q1 q2 q3 HTK2
        have HDZ:=hid (HDU.out zz HTK2.out)
        obtain ⟨rk2,hrk⟩:∃ z,zz.rank=z:=⟨_,rfl⟩
        obtain ⟨sh2,hsh⟩:∃ z,zz.shift=z:=⟨_,rfl⟩
        obtain ⟨lo2,hlo⟩:∃ z,zz.lo=z:=⟨_,rfl⟩
        obtain ⟨hi2,hhi⟩:∃ z,zz.hi=z:=⟨_,rfl⟩
        rw [hrk] at q0 HDZ
        rw [hsh] at q1 HDZ
        rw [hlo] at q2 HDZ
        rw [hhi] at q3 HDZ
        clear hzz hrk hsh hlo hhi hip hbp HTK2
        gi_upto_region 16 with fail
        have hb8:Below wr.heap.size wr (wr.alloc (.cells #[.int .i64 rk2,.int .i64 sh2,.int .i64 lo2,.int .i64 hi2] 105)):=(Below.refl _ wr).alloc (Nat.le_refl _) _
        have HX8:=hid (hX.out.low hb8)
        have HM8:=hid (hMm.out.below hb8)
        have HB8:=hid (hBm.out.below hb8)
        have HY8:=hid (hYm.out.below hb8)
        have HK8:=hid (hKm.out.trans (KeepsOthers.alloc wr (.cells #[.int .i64 rk2,.int .i64 sh2,.int .i64 lo2,.int .i64 hi2] 105)))
        have HZ8:=hid (Blk.new wr 105 #[.int .i64 rk2,.int .i64 sh2,.int .i64 lo2,.int .i64 hi2])
        obtain ⟨Z,hZe⟩:∃ Z,wr.heap.size=Z:=⟨_,rfl⟩
        rw [hZe] at HZ8 ⊢
        generalize wr.alloc (.cells #[.int .i64 rk2,.int .i64 sh2,.int .i64 lo2,.int .i64 hi2] 105)=W8 at *
        have y0:W8.cell? ⟨Y,0,none⟩=some (.int .i64 rk):=HY8.out.cell 0
        have y1:W8.cell? ⟨Y,1,none⟩=some (.int .i64 sh):=HY8.out.cell 1
        have z0:W8.cell? ⟨Z,0,none⟩=some (.int .i64 rk2):=HZ8.out.cell 0
        have z1:W8.cell? ⟨Z,1,none⟩=some (.int .i64 sh2):=HZ8.out.cell 1
        have z2:W8.cell? ⟨Z,2,none⟩=some (.int .i64 lo2):=HZ8.out.cell 2
        have z3:W8.cell? ⟨Z,3,none⟩=some (.int .i64 hi2):=HZ8.out.cell 3
        clear hb8 hX hMm hBm hYm hKm q0 q1 q2 q3 hZe HZ8
        by_cases a1:rk2=rk
        ·have f1:(rk2==rk)=true:=by rw [a1];exact beq_self_eq_true _
         by_cases a2:sh2=sh
         ·have f2:(sh2==sh)=true:=by rw [a2];exact beq_self_eq_true _
          by_cases a3:lo2≤(t:Int)
          ·have f3:decide (lo2≤(t:Int))=true:=decide_eq_true a3
           by_cases a4:(t:Int)≤hi2
           ·have f4:decide ((t:Int)≤hi2)=true:=decide_eq_true a4
            have HQN:=hid (show ∀ p,p∈M↔(DnP S f (sl.take k) p∨KyP x (pre.map (·.1)) p)∨PtP x (t:Int) (j+1) p from fun p=>by
             rw [hQm.out p,HNX.out p]
             exact ⟨fun h=>h.imp id .inl,fun h=>h.imp id fun h=>h.elim id fun h=>HDZ.out a1 a2 a3 a4 p h⟩)
            clear a1 a2 a3 a4 hQm
            gi_wp2
            go_roundw
            case rel=>exact ⟨j+1,M,by omega,by go_num,HX8,HQN,by omega,HM8,HB8,HK8⟩
            case measure=>simp [intOf];omega
           ·have f4:decide ((t:Int)≤hi2)=false:=decide_eq_false a4
            clear a1 a2 a3 a4
            gi_wp2
            go_roundw
            case rel=>exact ⟨i2+1,by omega,by go_num,HX8,HM8,HB8,HY8,HK8⟩
            case measure=>simp [intOf];omega
          ·have f3:decide (lo2≤(t:Int))=false:=decide_eq_false a3
           clear a1 a2 a3
           gi_wp2
           go_roundw
           case rel=>exact ⟨i2+1,by omega,by go_num,HX8,HM8,HB8,HY8,HK8⟩
           case measure=>simp [intOf];omega
         ·have f2:(sh2==sh)=false:=by rw [beq_eq_false_iff_ne];exact a2
          clear a1 a2
          gi_wp2
          go_roundw
          case rel=>exact ⟨i2+1,by omega,by go_num,HX8,HM8,HB8,HY8,HK8⟩
          case measure=>simp [intOf];omega
        ·have f1:(rk2==rk)=false:=by rw [beq_eq_false_iff_ne];exact a1
         clear a1
         gi_wp2
         go_roundw
         case rel=>exact ⟨i2+1,by omega,by go_num,HX8,HM8,HB8,HY8,HK8⟩
         case measure=>simp [intOf];omega
       ·have hj3:¬ (i2:Int)<(j:Int):=by omega
        obtain ⟨r,rfl⟩:=Int.eq_ofNat_of_zero_le u1
        obtain ⟨note,hnote⟩:=Int.eq_ofNat_of_zero_le u3
        have hr2:r<nr:=by omega
        have hn2:note<128:=by omega
        obtain ⟨g0,g1⟩:=hX.out.ct.at' hr2 hn2
        have e1:IntKind.i64.wrap ((t:Int)+sh)=(note:Int):=by rw [← hnote];exact IntWalk.i64_in _ (by omega)
        have hcn:M.count ((r:Int),(note:Int))≤M.length:=List.count_le_length
        have e2:IntKind.i64.wrap (((M.count ((r:Int),(note:Int)):Nat):Int)+1)=((M.count ((r:Int),(note:Int)):Nat):Int)+1:=IntWalk.i64_in _ (by have:=HSN.out;omega)
        have HQN:=hid (show ∀ p,p∈M++[((r:Int),(note:Int))]↔(DnP S f (sl.take k) p∨KyP x (pre.map (·.1)) p)∨PtP x (t:Int) (j+1) p from fun p=>by
         rw [List.mem_append,List.mem_singleton,hQm.out p,HNX.out p,HCN2.out p,hnote,or_assoc])
        have hd0:Below wr.heap.size wr wr.drew:=(Below.refl _ _).drew
        have HX9:=hid (hX.out.low hd0)
        have HXN:=hid (HX9.out.inc hr2 hn2)
        obtain ⟨cs9,k9,_⟩:=HX9.out.ct
        have hg9:=set_grown wr.drew W1.heap.size (r * 128+note) (.int .i64 (((M.count ((r:Int),(note:Int)):Nat):Int)+1))
        have HM9:=hid ((hMm.out.below hd0).grown hg9 (fun r e=>by cases e;exact ⟨_,_,_,k9⟩))
        have HB9:=hid ((hBm.out.below hd0).grown hg9 (fun e=>k9.ne (hBm.out.below hd0) (by decide) (Option.some.inj e)))
        have HK9:=hid ((hKm.out.trans (KeepsOthers.drew wr)).trans (KeepsOthers.setCell wr.drew ⟨W1.heap.size,r * 128+note,none⟩ (.int .i64 (((M.count ((r:Int),(note:Int)):Nat):Int)+1))))
        have y0:wr.cell? ⟨Y,0,none⟩=some (.int .i64 (r:Int)):=hYm.out.cell 0
        have y1:wr.cell? ⟨Y,1,none⟩=some (.int .i64 sh):=hYm.out.cell 1
        have b0:wr.cell? ⟨W1.heap.size+1,0,none⟩=some (.slice (some ⟨W1.heap.size,0,none⟩) nr nr):=hX.out.bo.cell 0
        have hr3:(r:Int)<(nr:Int):=by omega
        have hn3:(note:Int)<(128:Int):=by omega
        clear hX hMm hBm hKm hQm hYm hd0 hcn hg9 k9 hnote u3 u4
        gi_upto_region 18 with fail
        refine wpIn_region_still_round 13 hmx (by kernel_rfl) (by kernel_rfl) ?_
        simp only [List.take_succ_cons,List.take_zero,List.drop_succ_cons,List.drop_zero]
        repeat still_step
        refine wpStill_nil ?_
        change wpList _ _ _ _ _ wr.drew
        go_wp2
        have e9:wr.drew.setCell ⟨W1.heap.size,r * 128+note,none⟩ (.int .i64 (((M.count ((r:Int),(note:Int)):Nat):Int)+1))=(wr.setCell ⟨W1.heap.size,r * 128+note,none⟩ (.int .i64 (((M.count ((r:Int),(note:Int)):Nat):Int)+1))).drew:=rfl
        rw [e9] at HXN HM9 HB9 HK9
        gi_wp2
        go_roundw
        case rel=>exact ⟨j+1,M++[((r:Int),(note:Int))],by omega,by go_num,HXN,HQN,by rw [List.length_append,List.length_singleton];omega,HM9,HB9,HK9⟩
        case measure=>simp [intOf];omega
     ·have hj2:¬ (j:Int)<(np:Int):=by omega
      have hje:j=np:=by omega
      have HPA:=hid (show ∀ p,PtP x (t:Int) j p↔playsB x (t:Int) p=true from fun p=>PtP_all x _ (by rw [HNP.out];omega) p)
      have HEND:=hid (show KyI w A W1.heap.size (W1.heap.size+1) v1 (.slice a2 nr c2) (.slice (some ⟨b,o,none⟩) S.ss.length c3) v4 vk (.slice (some ⟨b5,o5,none⟩) sl.length cs') vc n nr m S f (sl.take k) x X #[.string nm,.int .i64 d,.int .i64 fnum,.int .i64 fden,.slice pa np pc] Ds (k * 1600) (pre++[y]) wr from
       ⟨⟨M,hX.out,fun p=>by rw [hQm.out p,HPA.out p,List.map_append,List.map_singleton,KyP_snoc,HTE.out,or_assoc],by rw [List.length_append,List.length_singleton];omega⟩,hMm.out,hBm.out⟩)
      clear hX hQm hMm hBm hje
      gi_wp2
      exact ⟨hKm.out.from _,fun _=>HKT.out _ HEND.out.ex.choose_spec.1.b,HEND.out⟩
   case done =>
    rintro D ys W hD hys hR hK
    obtain ⟨M',hX',hQ',hM'⟩:=hR.ex
    have hyl:ys.length≤128:=by have:=congrArg List.length hys;rw [List.length_map] at this;have:=nts_len q;omega
    have HI2:=hid hX'
    have HQ2:=hid (show ∀ p,p∈M'↔DnP S f (sl.take (k+1)) p from fun p=>by rw [hQ' p,hys];exact (HDQ.out p).symm)
    have HM2:=hid (hR.mks.cons (fun hm=>by have:=HDS.out D hm;omega) (by omega) hK)
    have hml2:M'.length≤(k+1) * 1600:=by omega
    have hs80:=HSN.out
    clear hR hK hX' hQ' hM'
    gi_wp2_with fail
    refine ⟨?_,?_⟩
    ·repeat apply Exists.intro
     exact ⟨⟨k+1,M',by omega,by go_num,HI2,HQ2,hml2,HM2⟩,rfl⟩
    ·simp [intOf];omega
   case stop =>
    rintro D c pre W _ _ h _
    exact h.elim
  ·have hkl2:¬ (k:Int)<(sl.length:Int):=by omega
   have hke:k=sl.length:=by omega
   have hs80:=HSN.out
   have hQE:∀ p,p∈M↔Snd S f p:=fun p=>(hQ.out p).trans (by rw [hke,List.take_length,← HSL.out,DnP_all HF.out p])
   have o0:wr.cell? ⟨W1.heap.size+1,0,none⟩=some (.slice (some ⟨W1.heap.size,0,none⟩) nr nr):=hX.out.bo.cell 0
   have HQE:=hid hQE
   have hml9:M.length≤200000:=by omega
   have HRET:=hid (show CntR S f w (.returned (.slice (some ⟨W1.heap.size,0,none⟩) nr nr)) (cleared wr Ds) from by
    obtain ⟨cs9,k9,k10,k11⟩:=hX.out.ct
    refine ⟨W1.heap.size,M,by rw [HNR.out],hX.out.lo,⟨cs9,cleared_blk hDs.out k9,by rw [HNR.out];exact k10,by rw [HNR.out];exact k11⟩,hml9,hQE,?_⟩
    exact hX.out.b.trans (below_clr fun D hD=>(hDs.out.at' D hD).1))
   have o1:(cleared wr Ds).cell? ⟨W1.heap.size+1,0,none⟩=some (.slice (some ⟨W1.heap.size,0,none⟩) nr nr):=(cleared_blk hDs.out hX.out.bo).cell 0
   clear hX hQ hQE hke hkl
   gi_wp2
   refine marks_ret hDs.out rfl (by simp [results,Tryz.results152,go_sem]) HRET.out
theorem count_any (v1 v2 v3 v4 vk vs vc:Value) (S:Sp) (hc:(checkP S).2=0) (fp:Nat→Value) (f:Th→Int) (hf:OnOk S f) (w:World) (hD:Deb w) (hsp:SpRd w v1 v2 v3 v4 fp S) (hcap:∀ i,i<S.ss.length→CapOk (fp i)) (hh:HcRd w vk vs vc S f) :
  Calls Tryz.prog 152 #[.agg #[v1,v2,v3,v4],.agg #[vk,vs,vc]] w (CntR S f w) :=
 callsIn_wide.1 (count_in 6 (Nat.le_refl 6) v1 v2 v3 v4 vk vs vc S hc fp f hf w hD hsp hcap hh)
end Go.Proofs.YteflhbfgpknabaaGreatDoor
