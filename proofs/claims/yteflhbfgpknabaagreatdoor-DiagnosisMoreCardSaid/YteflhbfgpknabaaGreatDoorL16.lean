/-
  A part of the proof: UO,AI2,AI3,AI4.
-/
import Derived.Test.YteflhbfgpknabaaGreatDoorL15
import Derived.Deep.MidRow
import Derived.Deep.WholeRow
import Derived.Great.Walk
import Derived.Test.YteflhbfgpknabaaGreatDoorL10
set_option maxRecDepth 100000
set_option maxHeartbeats 12800000
namespace Go.Proofs.YteflhbfgpknabaaGreatDoor
open Go.Lib (hid)
open Go.RowKit Go.Shelf
def SdsR (S:Sp) (f:Th→Int) (w:World) (e:Ending) (w':World):Prop:=∃ (SB:Nat) (m:List Pp),e = .returned (.slice (some ⟨SB,0,none⟩) S.rs.length S.rs.length)∧w.heap.size≤SB∧KsI w' SB S.rs.length m∧(∀ p,p∈m↔Snd S f p)∧Below w.heap.size w w'
structure SdX (w:World) (SB OB nr:Nat) (M m:List Pp) (W:World):Prop where
 b:Below w.heap.size w W
 lo:w.heap.size≤SB
 ks:KsI W SB nr m
 ct:CtI W OB nr M
variable {w W W' : World} {SB OB nr : Nat} {M m m' : List Pp}
theorem SdX.low (h:SdX w SB OB nr M m W) (hb:Below W.heap.size W W'):SdX w SB OB nr M m W':=⟨below_step h.b hb,h.lo,h.ks.below hb,h.ct.below hb⟩
theorem SdX.put (h:SdX w SB OB nr M m W) (hk:KsI W' SB nr m') (hg:W.grownBy W' (some SB)):SdX w SB OB nr M m' W':=by
 obtain ⟨ks,j1,_⟩:=h.ks
 obtain ⟨cs,k1,_⟩:=h.ct
 exact ⟨h.b.grown hg h.b.size (fun k e=>by cases e;exact h.lo),h.lo,hk,h.ct.kept hg (fun e=>j1.ne k1 (by decide) (Option.some.inj e))⟩
def rowL (M:List Pp) (r:Nat):List Value:=(List.range 128).map fun (t:Nat)=>Value.int .i64 ((M.count ((r:Int),(t:Int)):Nat):Int)
theorem rowL_len (M:List Pp) (r:Nat):(rowL M r).length=128:=by simp [rowL]
theorem rowL_at (M:List Pp) (r:Nat) {t:Nat} (ht:t<128):(rowL M r)[t]?=some (Value.int .i64 ((M.count ((r:Int),(t:Int)):Nat):Int)):=by
 unfold rowL
 rw [List.getElem?_map,List.getElem?_range ht,Option.map_some]
theorem rowL_one (M:List Pp) (r:Nat):(rowL M r).toArray.all (·.oneCell')=true:=by
 rw [List.all_toArray,List.all_eq_true]
 intro x hx
 obtain ⟨t,_,rfl⟩:=List.mem_map.1 hx
 rfl
theorem row_size128 {n:Nat} (h:n=128):(Tryz.prog.info? 208).map (·.size)=some n:=by
 have:=row_info
 rw [h]
 cases hq:Tryz.prog.info? 208 with
 | none=>rw [hq] at this;cases this
 | some i=>rw [hq] at this;simp at this;simp [this.2.1]
theorem CtI.range (h:CtI W OB nr M) {r:Nat} (hr:r<nr):W.rangeAt OB (r * 128) (rowL M r):=fun j v hj=>by
 have hl:j<128:=by
  have:=(List.getElem?_eq_some_iff.1 hj).1
  rw [rowL_len] at this
  exact this
 rw [rowL_at M r hl] at hj
 cases hj
 exact (h.at' hr hl).1
theorem index_row (M:List Pp) (r:Nat) {t:Nat} (ht:t<128) (W:World):(Instr.index 208 (.agg (rowL M r).toArray) (.int .i64 (t:Int))).run Tryz.prog W = .ok (.int .i64 ((M.count ((r:Int),(t:Int)):Nat):Int)) W:=by
 have hg:=rowL_at M r ht
 have ht2:(t:Int)<128:=by omega
 have hl:=rowL_len M r
 obtain ⟨rl,hrl⟩:∃ rl,rowL M r=rl:=⟨_,rfl⟩
 rw [hrl] at hg hl ⊢
 simp [Instr.index,go_sem,Tryz.sizeOf3,Tryz.isAgg3,hg]
 omega
def MkP (M m:List Pp) (k j:Nat):Prop:=∀ p,p∈m↔p∈M∧(p.1<(k:Int)∨(p.1=(k:Int)∧p.2<(j:Int)))
theorem MkP.snoc {M m:List Pp} {k j:Nat} (h:MkP M m k j) (hm:((k:Int),(j:Int))∈M):MkP M (m++[((k:Int),(j:Int))]) k (j+1):=by
 intro p
 rw [List.mem_append,List.mem_singleton,h p]
 constructor
 ·rintro (⟨h1,h2⟩ | rfl)
  ·exact ⟨h1,by omega⟩
  ·exact ⟨hm,.inr ⟨rfl,by simp only;omega⟩⟩
 ·rintro ⟨h1,h2⟩
  by_cases e:p=((k:Int),(j:Int))
  ·exact .inr e
  ·refine .inl ⟨h1,?_⟩
   rcases h2 with h2 | ⟨h2,h3⟩
   ·exact .inl h2
   ·refine .inr ⟨h2,?_⟩
    have:p.2≠(j:Int):=fun e2=>e (Prod.ext h2 e2)
    omega
theorem MkP.skip {M m:List Pp} {k j:Nat} (h:MkP M m k j) (hm:¬ ((k:Int),(j:Int))∈M):MkP M m k (j+1):=by
 intro p
 rw [h p]
 constructor
 ·rintro ⟨h1,h2⟩
  exact ⟨h1,by omega⟩
 ·rintro ⟨h1,h2⟩
  refine ⟨h1,?_⟩
  rcases h2 with h2 | ⟨h2,h3⟩
  ·exact .inl h2
  ·refine .inr ⟨h2,?_⟩
   have:p.2≠(j:Int):=fun e2=>hm (by rw [← h2,← e2];exact h1)
   omega
theorem MkP.turn {M m:List Pp} {k:Nat} (h:MkP M m k 128) (hb:∀ p∈M,0≤p.2∧p.2<128):MkP M m (k+1) 0:=by
 intro p
 rw [h p]
 constructor
 ·rintro ⟨h1,h2⟩
  exact ⟨h1,by omega⟩
 ·rintro ⟨h1,h2⟩
  have:=hb p h1
  exact ⟨h1,by omega⟩
theorem soundsS_any (v1 v2 v3 v4 vk vs vc:Value) (S:Sp) (hc:(checkP S).2=0) (fp:Nat→Value) (f:Th→Int) (hf:OnOk S f) (w:World) (hD:Deb w) (hsp:SpRd w v1 v2 v3 v4 fp S) (hcap:∀ i,i<S.ss.length→CapOk (fp i)) (hh:HcRd w vk vs vc S f) :
  Calls Tryz.prog 117 #[.agg #[v1,v2,v3,v4],.agg #[vk,vs,vc]] w (SdsR S f w):=by
 obtain ⟨_,l2,_,_⟩:=sp_lens hc
 obtain ⟨_,⟨a2,c2,rfl⟩,_,_⟩:=hsp.forms
 have hmk:=make_sets S.rs.length (by omega)
 have hb0:Below w.heap.size w (((w.alloc (.cells #[v1,.slice a2 S.rs.length c2,v3,v4] 27)).alloc (.cells #[vk,vs,vc] 32)).alloc (.cells (madeCells #[.int .u64 0,.int .u64 0] (S.rs.length * 2)) 202)):=(below_two w _ _).alloc (by simp;omega) _
 have HB0:=hid hb0
 have hks:=KsI.start ((w.alloc (.cells #[v1,.slice a2 S.rs.length c2,v3,v4] 27)).alloc (.cells #[vk,vs,vc] 32)) S.rs.length
 rw [World.size_alloc,World.size_alloc] at hks
 have HKS:=hid hks
 have HCNT:=hid (fun (W:World) (hb:Below w.heap.size w W)=>count_any v1 (.slice a2 S.rs.length c2) v3 v4 vk vs vc S hc fp f hf W (hD.below hb) (hsp.later hb) hcap (hh.later hb))
 have HOK:=hid (fun (p:Pp) (h:Snd S f p)=>show 0≤p.1∧p.1<(S.rs.length:Int)∧0≤p.2∧p.2<128 from by
  obtain ⟨i,hi,_,key,_,_,hp⟩:=h
  exact pipe_in hc ((spGood hc).plays (List.getElem_mem hi) (key:=key) p (by rw [mem_playsL];exact hp)))
 clear hb0 hsp hh hf hD hcap hc hks
 go_enter Tryz.func117,Tryz.ntmps117
 go_wp2_with (go_at_call 152;refine (HCNT.out _ HB0.out).mono ?_;rintro e W1 ⟨OB,M,rfl,hlo,hct,hml,hM,hb1⟩;have HX:=hid (show SdX w (w.heap.size+1+1) OB S.rs.length M [] W1 from ⟨below_step HB0.out hb1,by omega,HKS.out.below hb1,hct⟩);have HM:=hid hM;clear hlo hct hml hM hb1 HKS HB0 HCNT hmk)
 obtain ⟨nr,hnr⟩:∃ nr,S.rs.length=nr:=⟨_,rfl⟩
 have HNR:=hid hnr
 obtain ⟨SB,hsb⟩:∃ SB,w.heap.size+1+1=SB:=⟨_,rfl⟩
 rw [hnr] at HX l2 HOK ⊢
 rw [hsb] at HX ⊢
 clear hnr hsb
 have HQ0:=hid (show MkP M [] 0 0 by
  intro p
  constructor
  ·intro h;cases h
  ·rintro ⟨h1,h2⟩
   have:=HOK.out p ((HM.out p).1 h1)
   omega)
 go_loopw [18] (fun x wr=>∃ (k:Nat) (m:List Pp),k≤nr∧x = .int .i64 k∧Hid (SdX w SB OB nr M m wr)∧Hid (MkP M m k 0)) (fun x _=>nr-(intOf x).toNat)
 case atStart=>exact ⟨0,[],Nat.zero_le _,rfl,HX,HQ0⟩
 clear HX HQ0
 obtain ⟨k,m,hk,rfl,hX,hQ⟩:=hrel
 by_cases hkn:k<nr
 ·have hk2:(k:Int)<(nr:Int):=by omega
  go_upto_region 4 with fail
  have hrg:=hX.out.ct.range hkn
  have hl:=rowL_len M k
  have h1:=rowL_one M k
  have HIX:=hid (fun (t:Nat) (ht:t<128)=>index_row M k ht)
  obtain ⟨rl,hrl⟩:∃ rl,rowL M k=rl:=⟨_,rfl⟩
  rw [hrl] at hrg hl h1 HIX
  have hz:Tryz.zeroCells208.size=128:=by kernel_rfl
  have hb4:Below wr.heap.size wr ((wr.alloc (.cells Tryz.zeroCells208 208)).setCells wr.heap.size 0 rl):=((Below.refl _ _).alloc (Nat.le_refl _) _).grown (grown_cells _ _ _ _) (by simp) (fun k e=>by cases e;exact Nat.le_refl _)
  have hk5:=Blk.new wr 208 Tryz.zeroCells208
  have hk4:=blk_put rl 0 _ _ hk5 (by rw [hz];omega)
  have e4:(Tryz.zeroCells208.toList.take 0++rl++Tryz.zeroCells208.toList.drop (0+rl.length)).toArray=rl.toArray:=by
   rw [List.take_zero,List.nil_append,List.drop_of_length_le (by rw [Array.length_toList,hz];omega),List.append_nil]
  rw [e4] at hk4
  have HX4:=hid (hX.out.low hb4)
  have HK4:=hid hk4
  refine wp_region_list ?_
  refine Go.Great.wpList_runTo rfl (some 20) rfl (.int .i64 (k:Int)) wr (by simp [execOp,go_sem]) ?_
  refine Go.Great.wpList_runTo rfl (some 21) rfl (.pointer (some ⟨OB,k * 128,none⟩)) wr (by simp [execOp,go_sem,hk2]) ?_
  refine wpList_load_mid rfl 208 _ rfl OB (k * 128) rfl rl _ hrg Tryz.underlying208 rfl (row_size128 hl) ?_
  refine Go.Great.wpList_runTo rfl (some 7) rfl (.pointer (some ⟨wr.heap.size,0,none⟩)) (wr.alloc (.cells Tryz.zeroCells208 208)) (by simp [execOp,go_sem]) ?_
  refine Go.Great.wpList_runTo rfl (some 6) rfl (.int .i64 (k:Int)) (wr.alloc (.cells Tryz.zeroCells208 208)) (by simp [execOp,go_sem]) ?_
  refine wpList_store_mid rfl 208 _ _ rfl wr.heap.size 0 rl.toArray rfl rfl (fun j hj=>⟨by rw [hk5.cell,Array.getElem?_eq_getElem (by rw [hz];simp at hj;omega)];rfl,hk5.frozen _⟩) (row_size128 (by simpa using hl)) h1 ?_
  refine wpList_nil ?_
  obtain ⟨X,hXe⟩:∃ X,wr.heap.size=X:=⟨_,rfl⟩
  rw [hXe] at HX4 HK4 ⊢
  rw [List.toList_toArray]
  generalize (wr.alloc (.cells Tryz.zeroCells208 208)).setCells X 0 rl=W4 at *
  clear hX hb4 hk5 hk4 e4 hz hrg hrl hXe
  go_upto_region 5 with fail
  refine wp_region_list ?_
  refine wpList_load_row rfl 208 _ rfl X rfl 208 rl.toArray (0,0) _ HK4.out Tryz.underlying208 rfl (row_size128 (by simpa using hl)) ?_
  go_wp2
  clear hl h1
  go_loopw [24] (fun z wr=>∃ (j:Nat) (m:List Pp),j≤128∧z = .int .i64 j∧Hid (SdX w SB OB nr M m wr)∧Hid (MkP M m k j)) (fun z _=>128-(intOf z).toNat)
  case atStart=>exact ⟨0,m,Nat.zero_le _,rfl,HX4,hQ⟩
  clear HX4 HK4 hQ
  obtain ⟨j,m,hj,rfl,hX,hQ⟩:=hrel
  by_cases hjn:j<128
  ·have hj2:(j:Int)<(128:Int):=by omega
   have hix:=HIX.out j hjn
   by_cases hcn:0<M.count ((k:Int),(j:Int))
   ·have hc0:(0:Int)<((M.count ((k:Int),(j:Int)):Nat):Int):=by omega
    have HADD:=hid (addK_any wr SB nr m hX.out.ks k hkn j hjn)
    have HQN:=hid (show MkP M (m++[((k:Int),(j:Int))]) k (j+1) from hQ.out.snoc (List.count_pos_iff.1 hcn))
    have HPUT:=hid (fun (W':World) (hk:KsI W' SB nr (m++[((k:Int),(j:Int))])) (hg:wr.grownBy W' (some SB))=>hX.out.put hk hg)
    clear hX hQ
    go_wp2_with (go_at_call 153;refine HADD.out.mono ?_;rintro e w' ⟨rfl,hk',hg',_⟩;have HXN:=hid (HPUT.out _ hk' hg');clear hk' hg')
    go_roundw
    case rel=>exact ⟨j+1,m++[((k:Int),(j:Int))],by omega,by go_num,HXN,HQN⟩
    case measure=>simp [intOf];omega
   ·have hc0:¬ (0:Int)<((M.count ((k:Int),(j:Int)):Nat):Int):=by omega
    have HQN:=hid (show MkP M m k (j+1) from hQ.out.skip (fun h=>hcn (List.count_pos_iff.2 h)))
    clear hQ
    go_wp2
    go_roundw
    case rel=>exact ⟨j+1,m,by omega,by go_num,hX,HQN⟩
    case measure=>simp [intOf];omega
  ·have hj2:¬ (j:Int)<(128:Int):=by omega
   have hje:j=128:=by omega
   have HQN:=hid (show MkP M m (k+1) 0 from (hje ▸ hQ.out).turn (fun p hp=>(HOK.out p ((HM.out p).1 hp)).2.2))
   clear hQ
   go_wp2
   go_roundw
   case rel=>exact ⟨k+1,m,by omega,by go_num,hX,HQN⟩
   case measure=>simp [intOf];omega
 ·have hk2:¬ (k:Int)<(nr:Int):=by omega
  have hke:k=nr:=by omega
  have HRET:=hid (show ∃ m:List Pp,KsI wr SB nr m∧(∀ p,p∈m↔Snd S f p)∧Below w.heap.size w wr from ⟨m,hX.out.ks,fun p=>(hQ.out p).trans ((and_iff_left_of_imp fun hp => .inl (by have:=HOK.out p ((HM.out p).1 hp);omega)).trans (HM.out p)),hX.out.b⟩)
  have HLO:=hid hX.out.lo
  clear hX hQ
  go_wp2
  obtain ⟨m,r1,r2,r3⟩:=HRET.out
  go_ret
  exact ⟨SB,m,by rw [HNR.out];rfl,HLO.out,by rw [HNR.out];exact r1,r2,r3⟩
end Go.Proofs.YteflhbfgpknabaaGreatDoor
namespace Go.Proofs.YteflhbfgpknabaaGreatDoor
open Go.Lib (hid)
open Go.RowKit
theorem HdRd.keyLow {W:World} {vk vs vc:Value} {S:Sp} {f:Th→Int} (h:HdRd W vk vs vc S f) {d:Nat} (hd:d<S.ds.length):∃ b o c g,vk = .slice (some ⟨b,o,none⟩) S.ds.length c∧b<W.heap.size∧W.cell? ⟨b,o+d,none⟩=some g∧ARd W g 1 ((playedL f d).map iC):=by
 obtain ⟨⟨g,h1,h2⟩,_⟩:=h
 obtain ⟨b,o,c,e,hb,hc⟩:=h1.at d (by simpa using hd)
 refine ⟨b,o,c,g d,by simpa using e,hb,?_,h2 d hd⟩
 have:=hc 0 (g d) (by simp)
 simpa using this
theorem LsI.one (W:World) (x:Int):LsI (W.alloc (.cells #[.int .i64 x] 3)) (.slice (some ⟨W.heap.size,0,none⟩) 1 1) 1 :=
 ⟨⟨[x],rfl,ard_one W x⟩,.inr ⟨_,0,1,1,_,rfl,Blk.new W 3 #[.int .i64 x]⟩⟩
structure CvI (w:World) (v1 v2 v3 v4 vk vs vc:Value) (n LB:Nat) (rb:Nat→Nat) (P:Nat) (cp:Array Value) (G:Gr) (W:World):Prop where
 cn:CnI w v1 v2 v3 v4 vk vs vc n n LB rb G W
 cp:Blk W P 145 cp
theorem CvI.low {w:World} {v1 v2 v3 v4 vk vs vc:Value} {n LB:Nat} {rb:Nat→Nat} {P:Nat} {cp:Array Value} {G:Gr} {W W':World} (h:CvI w v1 v2 v3 v4 vk vs vc n LB rb P cp G W) (hb:Below W.heap.size W W'):CvI w v1 v2 v3 v4 vk vs vc n LB rb P cp G W':=⟨h.cn.low hb,h.cp.below hb⟩
theorem CvI.row {w:World} {v1 v2 v3 v4 vk vs vc:Value} {n LB:Nat} {rb:Nat→Nat} {P:Nat} {cp:Array Value} {G G':Gr} {W W':World} (h:CvI w v1 v2 v3 v4 vk vs vc n LB rb P cp G W) {d:Nat} (hd:d<n) (hg:W.grownBy W' (some (rb d))) (h2:GrI w.heap.size n n LB rb G' W'):CvI w v1 v2 v3 v4 vk vs vc n LB rb P cp G' W':=by
 obtain ⟨ks,k1,_⟩:=h.cn.g.row d hd
 exact ⟨h.cn.row hd hg h2,h.cp.grown hg (fun e=>(h.cp.ne k1 (by decide)) (Option.some.inj e).symm)⟩
theorem CvI.cells {w:World} {v1 v2 v3 v4 vk vs vc:Value} {n LB:Nat} {rb:Nat→Nat} {P:Nat} {x0 x1 x2 x3 x4 x5:Value} {G:Gr} {W:World} (h:CvI w v1 v2 v3 v4 vk vs vc n LB rb P #[x0,x1,x2,x3,x4,x5] G W) {b o:Nat} {g:Value} (hb:b<w.heap.size) (g0:w.cell? ⟨b,o,none⟩=some g) :
  CvI w v1 v2 v3 v4 vk vs vc n LB rb P #[x0,x1,x2,x3,x4,x5] G W∧W.cell? ⟨P,0,none⟩=some x0∧W.cell? ⟨P,1,none⟩=some x1∧W.cell? ⟨P,2,none⟩=some x2∧W.cell? ⟨P,3,none⟩=some x3∧W.cell? ⟨P,4,none⟩=some x4∧W.cell? ⟨P,5,none⟩=some x5∧W.cell? ⟨w.heap.size+1,0,none⟩=some vk∧W.cell? ⟨b,o,none⟩=some g :=
 ⟨h,h.cp.cell 0,h.cp.cell 1,h.cp.cell 2,h.cp.cell 3,h.cp.cell 4,h.cp.cell 5,h.cn.hd.cell 0,(h.cn.b.cell hb).trans g0⟩
structure ChL (S:Sp) (f:Th→Int) (n:Nat) (G0:Gr) (k:Nat) (p:Nat) (G:Gr):Prop where
 r:ChR S f n G0 k true G
 here:G (posP k)=some n
 suc:∀ c:Nat,(c:Int)∈(onL f 3 S.cs.length).take p→c<S.cs.length→thrB S f (posP k) c=true→keyOk S (thrTo S (posP k) c)=true→G (thrTo S (posP k) c)≠none
theorem ChR.takeL {S:Sp} {f:Th→Int} {n k:Nat} {G0 G:Gr} {more:Bool} (h:ChR S f n G0 k more G) (hk:G (posP k)=some n):ChL S f n G0 k 0 G :=
 ⟨(h.take hk).r,hk,fun c hc=>by rw [List.take_zero] at hc;cases hc⟩
theorem ChL.skip {S:Sp} {f:Th→Int} {n k p c:Nat} {G0 G:Gr} (h:ChL S f n G0 k p G) (hp:p<(onL f 3 S.cs.length).length) (he:(onL f 3 S.cs.length)[p]=(c:Int)) (hn:thrB S f (posP k) c=false):ChL S f n G0 k (p+1) G :=
 ⟨h.r,h.here,fun m hm hl ht=>by
  rw [List.take_succ_eq_append_getElem hp,List.mem_append,List.mem_singleton,he] at hm
  rcases hm with hm | hm
  ·exact h.suc m hm hl ht
  ·have:m=c:=by omega
   subst this
   rw [hn] at ht;cases ht⟩
theorem ChL.add {S:Sp} {f:Th→Int} {n k p i:Nat} {G0 G:Gr} (h:ChL S f n G0 k p G) (hp:p<(onL f 3 S.cs.length).length) (he:(onL f 3 S.cs.length)[p]=(i:Int)) (hi:i<S.cs.length) (ht:thrB S f (posP k) i=true):ChL S f n G0 k (p+1) (addG S G (thrTo S (posP k) i) (n+1)):=by
 have hle:GLe G (addG S G (thrTo S (posP k) i) (n+1)):=(GLe.refl G).add
 refine ⟨⟨fun q j e=>?_,fun q j e=>?_,fun q j e=>?_,fun q e=>?_,fun q j e h0 hj c hc ht2 hk2=>?_,h.r.since.add,fun q e=>?_,fun _ _=>rfl,fun _=>⟨_,hle _ _ h.here⟩,fun m hm e=>⟨rfl,fun c hc ht2 hk2=>?_⟩⟩,hle _ _ h.here,fun c hc hl ht2 hk2=>?_⟩
 ·rcases addG_new e with e | ⟨_,rfl,e,_⟩
  ·exact h.r.ok q j e
  ·exact e
 ·rcases addG_new e with e | ⟨_,rfl,e,_⟩
  ·exact h.r.act q j e
  ·exact act_thr hi ht (h.r.act _ _ h.here) e
 ·rcases addG_new e with e | ⟨_,_,_,rfl⟩
  ·exact h.r.le q j e
  ·exact Nat.le_refl _
 ·rcases addG_new e with e | ⟨_,_,_,e⟩
  ·exact h.r.zero q e
  ·omega
 ·rcases addG_new e with e | ⟨_,_,_,e⟩
  ·exact hle.some (h.r.closed q j e h0 hj c hc ht2 hk2)
  ·omega
 ·rcases addG_new e with e | ⟨_,_,_,e⟩
  ·exact h.r.old q e
  ·omega
 ·rcases addG_new e with e | ⟨_,_,_,e⟩
  ·exact hle.some ((h.r.done m hm e).2 c hc ht2 hk2)
  ·omega
 ·rw [List.take_succ_eq_append_getElem hp,List.mem_append,List.mem_singleton,he] at hc
  rcases hc with hc | hc
  ·exact hle.some (h.suc c hc hl ht2 hk2)
  ·have:c=i:=by omega
   subst this
   exact addG_at hk2
theorem ChL.end {S:Sp} {f:Th→Int} {n k:Nat} {G0 G:Gr} (h:ChL S f n G0 k (onL f 3 S.cs.length).length G):ChR S f n G0 (k+1) true G :=
 ⟨h.r.ok,h.r.act,h.r.le,h.r.zero,h.r.closed,h.r.since,h.r.old,h.r.no,h.r.yes,fun m hm e=>by
  by_cases q:m=k
  ·subst q
   refine ⟨rfl,fun c hc ht=>h.suc c ?_ hc ht⟩
   rw [List.take_length]
   have hon:f (3,0,(c:Int))=1:=by
    unfold thrB at ht
    rw [List.getElem?_eq_getElem hc] at ht
    simp only [Bool.and_eq_true,decide_eq_true_iff] at ht
    omega
   exact mem_onL.2 ⟨by omega,by omega,hon⟩
  ·exact h.r.done m (by omega) e⟩
theorem muG_le (G:Gr) (n:Nat):muG G n≤768:=by
 unfold muG
 refine Nat.le_trans (List.length_filter_le _ _) ?_
 unfold fieldP
 rw [List.length_map,List.length_range]
 exact Nat.le_refl _
theorem posP_at {d k:Nat} (hk:k<128):posP (d * 128+k)=((d:Int),(k:Int)):=by
 unfold posP
 exact Prod.ext (by simp only;omega) (by simp only;omega)
structure CwI (w:World) (v1 v2 v3 v4 vk vs vc:Value) (n LB:Nat) (rb:Nat→Nat) (P:Nat) (x1 x2 v:Value) (m:Nat) (G:Gr) (W:World):Prop where
 cn:CnI w v1 v2 v3 v4 vk vs vc n n LB rb G W
 cp:Blk W P 212 #[.bool true,x1,x2,v]
 ls:LsI W v m
 ap:∀ e,e<n→P≠rb e
theorem CwI.low {w:World} {v1 v2 v3 v4 vk vs vc:Value} {n LB:Nat} {rb:Nat→Nat} {P:Nat} {x1 x2 v:Value} {m:Nat} {G:Gr} {W W':World} (h:CwI w v1 v2 v3 v4 vk vs vc n LB rb P x1 x2 v m G W) (hb:Below W.heap.size W W'):CwI w v1 v2 v3 v4 vk vs vc n LB rb P x1 x2 v m G W':=⟨h.cn.low hb,h.cp.below hb,h.ls.low hb,h.ap⟩
theorem CwI.row {w:World} {v1 v2 v3 v4 vk vs vc:Value} {n LB:Nat} {rb:Nat→Nat} {P:Nat} {x1 x2 v:Value} {m:Nat} {G G':Gr} {W W':World} (h:CwI w v1 v2 v3 v4 vk vs vc n LB rb P x1 x2 v m G W) {d:Nat} (hd:d<n) (hg:W.grownBy W' (some (rb d))) (h2:GrI w.heap.size n n LB rb G' W'):CwI w v1 v2 v3 v4 vk vs vc n LB rb P x1 x2 v m G' W':=by
 obtain ⟨ks,k1,_⟩:=h.cn.g.row d hd
 exact ⟨h.cn.row hd hg h2,h.cp.grown hg (fun e=>h.ap d hd (Option.some.inj e).symm),h.ls.keep k1 (by decide) hg,h.ap⟩
theorem CwI.cells {w:World} {v1 v2 v3 v4 vk vs vc:Value} {n LB:Nat} {rb:Nat→Nat} {P Q:Nat} {x1 x2 v y0 y1 y2 y3 y4 y5:Value} {m:Nat} {G:Gr} {W:World} (h:CwI w v1 v2 v3 v4 vk vs vc n LB rb P x1 x2 v m G W) (hq:Blk W Q 145 #[y0,y1,y2,y3,y4,y5]) {b o:Nat} {g:Value} (hb:b<w.heap.size) (g0:w.cell? ⟨b,o,none⟩=some g) :
  (CwI w v1 v2 v3 v4 vk vs vc n LB rb P x1 x2 v m G W∧Blk W Q 145 #[y0,y1,y2,y3,y4,y5])∧W.cell? ⟨w.heap.size,0,none⟩=some v1∧W.cell? ⟨w.heap.size,1,none⟩=some v2∧W.cell? ⟨w.heap.size,2,none⟩=some v3∧W.cell? ⟨w.heap.size,3,none⟩=some v4∧W.cell? ⟨P,1,none⟩=some x1∧W.cell? ⟨P,2,none⟩=some x2∧W.cell? ⟨P,3,none⟩=some v∧W.cell? ⟨Q,2,none⟩=some y2∧W.cell? ⟨Q,3,none⟩=some y3∧W.cell? ⟨w.heap.size+1,2,none⟩=some vc∧W.cell? ⟨b,o,none⟩=some g :=
 ⟨⟨h,hq⟩,h.cn.sp.cell 0,h.cn.sp.cell 1,h.cn.sp.cell 2,h.cn.sp.cell 3,h.cp.cell 1,h.cp.cell 2,h.cp.cell 3,hq.cell 2,hq.cell 3,h.cn.hd.cell 2,(h.cn.b.cell hb).trans g0⟩
theorem LsI.of_own {base:Nat} {l:List Int} {W:World} {u:Value} (h:W.ownsRow base 3 1 u l.length (iCs l)):LsI W u l.length:=by
 refine ⟨⟨l,rfl,ARd.of_ints h⟩,?_⟩
 rcases h.2 with ⟨rfl,_⟩ | ⟨g,cap,cur,rfl,_,hg,_⟩
 ·exact .inl rfl
 ·exact .inr ⟨g,0,_,cap,cur,rfl,hg⟩
end Go.Proofs.YteflhbfgpknabaaGreatDoor
