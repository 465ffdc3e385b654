/-
  A part of the proof: AE, TW, TX, TS.
-/
import Derived.Test.YthhfmppealmblaaGreatDoorK23
import Derived.Test.YthhfmppealmblaaGreatDoorK19
import Derived.Test.YthhfmppealmblaaGreatDoorK07
import Derived.Deep.RegionHeld3
import Derived.Test.YthhfmppealmblaaGreatDoorK14
namespace Go.Proofs.YthhfmppealmblaaGreatDoor
open Go.RowKit
theorem onI_onL {f:Th→Int} {k:Int} {n:Nat}:∀ {m:Nat},n≤m→(∀ i:Nat,n≤i→f (k,0,(i:Int))≠1)→onI (fun i=>decide (f (k,0,(i:Int))=1)) m=onL f k n:=by
  intro m hm h
  induction m with
  | zero =>
    have:n=0:=by omega
    subst this
    rfl
  | succ m ih =>
    rw [onI_succ]
    by_cases e:n=m+1
    · subst e
      rw [onL_succ]
      have h2:∀ q:Nat,onI (fun i=>decide (f (k,0,(i:Int))=1)) q=onL f k q:=fun q=>by
        induction q with
        | zero=>rfl
        | succ q ih2=>rw [onI_succ,onL_succ,ih2];simp
      rw [h2]
      simp
    · rw [ih (by omega),if_neg (by simp;exact h m (by omega)),List.append_nil]
theorem onI_played (f:Th→Int) (d:Int):onI (fun k=>decide (f (1,d,(k:Int))=1)) 128=playedL f d:=by
  unfold onI playedL
  rw [List.filter_map]
  rfl
theorem below_set3 {w w':World} {b x:Nat} (h:Below b w w') (hx:b≤x) (u v t:Value):Below b w (((w'.setCell ⟨x,0,none⟩ u).setCell ⟨x,1,none⟩ v).setCell ⟨x,2,none⟩ t) :=
  ((h.setCell (p:=⟨x,0,none⟩) hx u).setCell (p:=⟨x,1,none⟩) hx v).setCell (p:=⟨x,2,none⟩) hx t
def IlR (L:List Int) (w:World) (e:Ending) (w':World):Prop:=∃ v,e = .returned v∧w'.ownsRow w.heap.size 3 1 v L.length (iCs L)∧Below w.heap.size w w'
structure EhI (wr:World) (X:Nat) (v1 v2:Value) (L1 L2:List Int) (W:World):Prop where
  bx:Blk W X 70 #[.slice none 0 0,v1,v2]
  r1:W.ownsRow wr.heap.size 3 1 v1 L1.length (iCs L1)
  r2:W.ownsRow wr.heap.size 3 1 v2 L2.length (iCs L2)
  be:Below wr.heap.size wr W
  ge:wr.heap.size≤X
theorem EhI.start {wr:World} {X:Nat} {v1 v2:Value} {L1 L2:List Int} {W:World} (h:EhI wr X v1 v2 L1 L2 W) (G:Nat→List Int):EkI wr X v1 v2 L1 L2 G (fun _ => .slice none 0 0) 0 (.slice none 0 0) W :=
  ⟨h.bx,h.r1,h.r2,World.ownsRow_nil _ _ _ _,fun _ hd=>absurd hd (Nat.not_lt_zero _),h.be,h.ge⟩
theorem EhI.last {wr w2 w3 W1:World} {v1 v2:Value} {L1 L2:List Int} (h1:w2.ownsRow W1.heap.size 3 1 v1 L1.length (iCs L1)) (hs:wr.heap.size≤W1.heap.size) (h2:w3.ownsRow w2.heap.size 3 1 v2 L2.length (iCs L2)) (hn:Below wr.heap.size wr w2) (hb:Below w2.heap.size w2 w3) :
    EhI wr w3.heap.size v1 v2 L1 L2 (w3.alloc (.cells #[.slice none 0 0,v1,v2] 70)):=by
  have hn3:=below_step hn hb
  have ha:Below w3.heap.size w3 (w3.alloc (.cells #[.slice none 0 0,v1,v2] 70)):=(Below.refl _ w3).alloc (Nat.le_refl _) _
  exact ⟨Blk.new _ _ _,row_later (row_later (row_base h1 hs) hb) ha,row_later (row_base h2 hn.size) ha,below_step hn3 ha,hn3.size⟩
theorem EhI.set {wr w3:World} {X:Nat} {v1 v2:Value} {L1 L2:List Int} (hz:Blk w3 X 70 #[.slice none 0 0,.slice none 0 0,.slice none 0 0]) (h1:w3.ownsRow wr.heap.size 3 1 v1 L1.length (iCs L1)) (h2:w3.ownsRow wr.heap.size 3 1 v2 L2.length (iCs L2)) (hb:Below wr.heap.size wr w3) (hg:wr.heap.size≤X) :
    EhI wr X v1 v2 L1 L2 (((w3.setCell ⟨X,0,none⟩ (.slice none 0 0)).setCell ⟨X,1,none⟩ v1).setCell ⟨X,2,none⟩ v2):=by
  have hgr:w3.grownBy (((w3.setCell ⟨X,0,none⟩ (.slice none 0 0)).setCell ⟨X,1,none⟩ v1).setCell ⟨X,2,none⟩ v2) (some X):=((set_grown w3 X 0 _).trans (set_grown _ X 1 _)).trans (set_grown _ X 2 _)
  have hne:∀ {v:Value} {L:List Int},w3.ownsRow wr.heap.size 3 1 v L.length (iCs L)→v.ownBlock=none∨v.ownBlock≠some X:=fun h => .inr (row_not h hz (by decide))
  exact ⟨hd_blk hz rfl _ _ _,h1.kept hgr (hne h1),h2.kept hgr (hne h2),below_set3 hb hg _ _ _,hg⟩
theorem own_ltA {W:World} {base:Nat} {t:TypeId} {k n:Nat} {v:Value} {xs:List Value} (h:W.ownsRow base t k v n xs) {g:Nat} (e:v.ownBlock=some g):g<W.heap.size:=by
  rcases h.2 with ⟨rfl,_⟩ | ⟨g',cap,cur,rfl,_,hg,_⟩
  · simp [Value.ownBlock] at e
  · have:g'=g:=by simpa [Value.ownBlock] using e
    subst this
    exact (Array.getElem?_eq_some_iff.1 hg).1
structure EkN (wr:World) (X:Nat) (v1 v2:Value) (L1 L2:List Int) (G:Nat→List Int) (g:Nat→Value) (i:Nat) (vk vk' v:Value) (A:World):Prop where
  bx:Blk A X 70 #[vk,v1,v2]
  r1:A.ownsRow wr.heap.size 3 1 v1 L1.length (iCs L1)
  r2:A.ownsRow wr.heap.size 3 1 v2 L2.length (iCs L2)
  ks:A.ownsRow wr.heap.size 68 1 vk' (i+1) ((List.range i).map g++[v])
  rs:∀ d,d<i→A.ownsRow wr.heap.size 3 1 (g d) (G d).length (iCs (G d))
  rv:A.ownsRow wr.heap.size 3 1 v (G i).length (iCs (G i))
  be:Below wr.heap.size wr A
  ge:wr.heap.size≤X
theorem EkN.later {wr:World} {X:Nat} {v1 v2:Value} {L1 L2:List Int} {G:Nat→List Int} {g:Nat→Value} {i:Nat} {vk vk' v:Value} {A A':World} (h:EkN wr X v1 v2 L1 L2 G g i vk vk' v A) (hb:Below A.heap.size A A'):EkN wr X v1 v2 L1 L2 G g i vk vk' v A' :=
  ⟨h.bx.below hb,row_later h.r1 hb,row_later h.r2 hb,row_later h.ks hb,fun d hd=>row_later (h.rs d hd) hb,row_later h.rv hb,below_step h.be hb,h.ge⟩
theorem EkI.pushN {wr:World} {X:Nat} {v1 v2:Value} {L1 L2:List Int} {G:Nat→List Int} {g:Nat→Value} {i:Nat} {vk:Value} {A:World} (h:EkI wr X v1 v2 L1 L2 G g i vk A) {v:Value} (hv:A.ownsRow wr.heap.size 3 1 v (G i).length (iCs (G i))) {A2:World} {vk':Value} (hg:A.grownBy A2 vk.ownBlock) (ho:A2.ownsRow wr.heap.size 68 1 vk' (i+1) ((List.range i).map g++[v])):EkN wr X v1 v2 L1 L2 G g i vk vk' v A2:=by
  have hk:∀ {u:Value} {L:List Int},A.ownsRow wr.heap.size 3 1 u L.length (iCs L)→A2.ownsRow wr.heap.size 3 1 u L.length (iCs L):=fun hu=>hu.kept hg (row_apart hu h.ks (by decide))
  exact ⟨blk_kept_row h.bx hg h.ks (by decide),hk h.r1,hk h.r2,ho,fun d hd=>hk (h.rs d hd),hk hv,h.be.grown hg h.be.size (fun j e=>row_ge h.ks e),h.ge⟩
theorem EkN.store {wr:World} {X:Nat} {v1 v2:Value} {L1 L2:List Int} {G:Nat→List Int} {g:Nat→Value} {i:Nat} {vk vk' v:Value} {A:World} (h:EkN wr X v1 v2 L1 L2 G g i vk vk' v A):EkI wr X v1 v2 L1 L2 G (fun d=>if d=i then v else g d) (i+1) vk' (A.setCell ⟨X,0,none⟩ vk'):=by
  have hgs:=set_grown A X 0 vk'
  have hk:∀ {u:Value} {L:List Int},A.ownsRow wr.heap.size 3 1 u L.length (iCs L)→(A.setCell ⟨X,0,none⟩ vk').ownsRow wr.heap.size 3 1 u L.length (iCs L):=fun hu=>hu.kept hgs (.inr (row_not hu h.bx (by decide)))
  refine ⟨h.bx.set 0 vk',hk h.r1,hk h.r2,?_,fun d hd=>?_,h.be.grown hgs h.be.size (fun j e=>by cases e;exact h.ge),h.ge⟩
  · have e:(List.range (i+1)).map (fun d=>if d=i then v else g d)=(List.range i).map g++[v]:=by
      rw [List.range_succ,List.map_append,List.map_cons,List.map_nil,if_pos rfl]
      congr 1
      refine List.map_congr_left fun d hd=>?_
      have:=List.mem_range.1 hd
      rw [if_neg (by omega)]
    rw [e]
    exact h.ks.kept hgs (.inr (row_not h.ks h.bx (by decide)))
  · by_cases e:d=i
    · subst e
      simp only [if_true]
      exact hk h.rv
    · simp only [if_neg e]
      exact hk (h.rs d (by omega))
set_option maxRecDepth 100000 in
set_option maxHeartbeats 12800000 in
theorem aends_any (v1 v2 v3 v4:Value) (S:Sp) (ok:SpOk S) (fp:Nat→Value) (l:List Ev) (vl:Value) (w:World) (t:Tabs w) (hsp:SpRd w v1 v2 v3 v4 fp S) (hlv:ARd w vl 5 (l.map evC)) (hl:l.length≤50000) :
    Calls Tryz.prog 30 #[.agg #[v1,v2,v3,v4],vl] w (EnR S l w):=by
  obtain ⟨j0,hj0,jz0,jz1,jz2⟩:=info_parts ints_info2
  obtain ⟨al,cl,evl⟩:=hlv.evForm
  subst evl
  obtain ⟨⟨ad,cd,rfl⟩,_⟩:=hsp.forms
  have b0:=((Blk.new w 27 #[.slice ad S.ds.length cd,v2,v3,v4]).alloc (.cells #[.slice none 0 0,.slice none 0 0,.slice none 0 0] 70)).alloc (.cells #[.slice al l.length cl] 28)
  have b1:=(Blk.new (w.alloc (.cells #[.slice ad S.ds.length cd,v2,v3,v4] 27)) 70 #[.slice none 0 0,.slice none 0 0,.slice none 0 0]).alloc (.cells #[.slice al l.length cl] 28)
  have b2:=Blk.new ((w.alloc (.cells #[.slice ad S.ds.length cd,v2,v3,v4] 27)).alloc (.cells #[.slice none 0 0,.slice none 0 0,.slice none 0 0] 70)) 28 #[.slice al l.length cl]
  rw [World.size_alloc] at b1
  rw [World.size_alloc,World.size_alloc] at b2
  have hal:Below w.heap.size w (((w.alloc (.cells #[.slice ad S.ds.length cd,v2,v3,v4] 27)).alloc (.cells #[.slice none 0 0,.slice none 0 0,.slice none 0 0] 70)).alloc (.cells #[.slice al l.length cl] 28)):=(below_two w _ _).alloc (by simp;omega) _
  have HCK:=Lib.hid (acheck_any (.slice ad S.ds.length cd) v2 v3 v4 S ok fp w.heap.size _ [(.slice al l.length cl,l)] _ (t.below hal) (hsp.later hal) b0 (by simp) (fun x hx=>by rw [List.mem_singleton.1 hx];exact Nat.le_trans hl (by omega)) (evsR_one b2 (hlv.later hal)))
  rw [show ([(.slice al l.length cl,l)]:List (Value × List Ev)).map (·.2)=[l] from rfl,chkE_one] at HCK
  have B0:=Lib.hid b0
  have C0:=Lib.hid b1
  have HB0:=Lib.hid hal
  have HSP:=Lib.hid hsp
  have HLV:=Lib.hid hlv
  clear b0 b1 b2 hal hsp hlv t ok
  go_enter Tryz.func30,Tryz.ntmps30
  go_wp2_with fail
  refine (HCK.out).mono ?_
  rintro e W ⟨rfl,hb⟩
  have HB1:=Lib.hid (below_step HB0.out hb)
  have B1:=Lib.hid (B0.out.below hb)
  have C1:=Lib.hid (C0.out.below hb)
  clear HCK hb B0 C0 HB0
  obtain ⟨e0,he0⟩:∃ e0,audE S l=e0:=⟨_,rfl⟩
  have HE:=Lib.hid he0
  by_cases hE:e0=0
  case neg =>
    have HN:=Lib.hid hE
    rw [he0] at ⊢
    have q1:(e0==0)=false:=by simpa using hE
    have r0:W.cell? ⟨w.heap.size+1,0,none⟩=some (.slice none 0 0):=C1.out.cell 0
    have r1:W.cell? ⟨w.heap.size+1,1,none⟩=some (.slice none 0 0):=C1.out.cell 1
    have r2:W.cell? ⟨w.heap.size+1,2,none⟩=some (.slice none 0 0):=C1.out.cell 2
    have f0:=C1.out.frozen 0
    have f1:=C1.out.frozen 1
    have f2:=C1.out.frozen 2
    have HBL:=Lib.hid (hd_blk C1.out rfl (.slice none 0 0) (.slice none 0 0) (.slice none 0 0))
    have HG:=Lib.hid (((set_grown W (w.heap.size+1) 0 (.slice none 0 0)).trans (set_grown _ (w.heap.size+1) 1 (.slice none 0 0))).trans (set_grown _ (w.heap.size+1) 2 (.slice none 0 0)))
    have HB3:=Lib.hid (HB1.out.grown HG.out HB1.out.size (fun r e=>by cases e;omega))
    clear he0 hE
    go_wp2
    refine bodyPost_ret (results_cell_row_tmp rfl _ _ (w.heap.size+1) 70 _ (0,0) _ rfl HBL.out Tryz.underlying70 rfl (by kernel_rfl)) rfl ?_
    exact ⟨.slice none 0 0,.slice none 0 0,.slice none 0 0,by show Ending.returned (.tuple #[.agg #[.slice none 0 0,.slice none 0 0,.slice none 0 0],.int .i64 e0])=_;rw [HE.out],fun h=>absurd (HE.out.symm.trans h) HN.out,fun _=>⟨rfl,rfl,rfl⟩,HB3.out⟩
  subst hE
  rw [he0]
  obtain ⟨hck,hrk⟩:=audE_parts he0
  have HRC:=Lib.hid ((recE_iff hck).1 hrk)
  have HCKZ:=Lib.hid hck
  have hll:=HRC.out.1
  have hbe:=(Below.refl _ W).alloc (Nat.le_refl W.heap.size) (.cells (Tryz.zeroCells134.setIfInBounds 0 (.pointer (some ⟨w.heap.size,0,none⟩))) 134)
  have hpx:=PlX.start0 W w.heap.size
  clear he0 hck hrk
  go_upto_region 5 with fail
  generalize W.alloc (.cells (Tryz.zeroCells134.setIfInBounds 0 (.pointer (some ⟨w.heap.size,0,none⟩))) 134)=W3 at *
  have HI0:=Lib.hid (show PyI W (.slice ad S.ds.length cd) v2 v3 v4 fp S w.heap.size (onV (l.take 0)) (tickB l 0) W.heap.size W3 from ⟨HSP.out.later HB1.out,B1.out,hpx,hbe,Nat.le_refl _⟩)
  clear hpx hbe
  go_wp2
  go_loopw [22] (fun x w2=>∃ i:Nat,i≤l.length∧x = .int .i64 i∧RowKit.Hid (PyI W (.slice ad S.ds.length cd) v2 v3 v4 fp S w.heap.size (onV (l.take i)) (tickB l i) W.heap.size w2)) (fun x _=>l.length-(intOf x).toNat)
  case atStart=>exact ⟨0,Nat.zero_le _,rfl,HI0⟩
  clear HI0
  obtain ⟨i,hi,rfl,hI⟩:=hrel
  by_cases hil:i<l.length
  · have hi3:(i:Int)<(l.length:Int):=by omega
    obtain ⟨be,oe,c',ev,hec⟩:=(HLV.out.later HB1.out).evC' i hil
    cases ev
    have hbin:=bin_upto HCKZ.out (by omega:i≤l.length) (fun j hj=>HRC.out.2 j (by omega))
    have HPY:=Lib.hid (play_any W (.slice ad S.ds.length cd) v2 v3 v4 S HCKZ.out fp w.heap.size W.heap.size be (oe+i * 5) _ hbin _ l[i] wr hI.out hec)
    have hre:=(recF_evR (S:=S) hil).symm.trans (HRC.out.2 i hil)
    have HON:=Lib.hid (onV_take hil)
    have HTB:=Lib.hid (tickB_next hil)
    have HRE:=Lib.hid hre
    clear hre hbin hec hI
    go_wp2_with fail
    refine (HPY.out).mono ?_
    rintro e w4 (⟨h0,rfl,hpy,hg⟩ | ⟨h0,rfl,hb4,hg⟩)
    · have HI4:=Lib.hid hpy
      rw [← HON.out,← HTB.out] at HI4
      clear h0 hpy hg HPY
      go_wp2
      go_roundw
      case rel=>exact ⟨i+1,by omega,by go_num,HI4⟩
      case measure=>simp [intOf];omega
    · exact absurd HRE.out h0
  · have hi3:¬ (i:Int)<(l.length:Int):=by omega
    have hie:i=l.length:=by omega
    rw [hie,List.take_length] at hI
    clear hie
    have HP:=Lib.hid hI.out.px
    have HLT:=Lib.hid hI.out.px.lt
    have hok:=onOk_upto HCKZ.out (Nat.le_refl l.length) (fun j hj=>HRC.out.2 j hj)
    rw [List.take_length] at hok
    obtain ⟨l1,_,l3,l4⟩:=sp_lens HCKZ.out
    have hL1:onI (fun i=>decide (onV l (2,0,(i:Int))=1)) 80=onL (onV l) 2 S.ss.length:=onI_onL l3 (fun i hi q=>by have:=(hok.stop 0 i (by rw [q];decide)).2.2;omega)
    have hL2:onI (fun i=>decide (onV l (3,0,(i:Int))=1)) 24=onL (onV l) 3 S.cs.length:=onI_onL l4 (fun i hi q=>by have:=(hok.cou 0 i (by rw [q];decide)).2.2;omega)
    obtain ⟨L1,hM1⟩:∃ L,onL (onV l) 2 S.ss.length=L:=⟨_,rfl⟩
    obtain ⟨L2,hM2⟩:∃ L,onL (onV l) 3 S.cs.length=L:=⟨_,rfl⟩
    have HM:=Lib.hid (And.intro hM1 hM2)
    have HON1:=Lib.hid (fun (W':World) (hb:Below wr.heap.size wr W')=>(on_any (fun i=>decide (onV l (2,0,(i:Int))=1)) 80 (by omega) W.heap.size 769 80 W' (Nat.lt_of_lt_of_le HLT.out hb.size) (fun d hd=>by
      have h1:=HP.out.on (onIx_stop hd)
      rw [show 1+(768+d)=769+d by omega] at h1
      exact (hb.cell (cell_size h1)).trans h1)).mono (R':=IlR L1 W') (fun e w' h=>by unfold OnR at h;rw [hL1,hM1] at h;exact h))
    have HON2:=Lib.hid (fun (W':World) (hb:Below wr.heap.size wr W')=>(on_any (fun i=>decide (onV l (3,0,(i:Int))=1)) 24 (by omega) W.heap.size 849 24 W' (Nat.lt_of_lt_of_le HLT.out hb.size) (fun d hd=>by
      have h1:=HP.out.on (onIx_coupler hd)
      rw [show 1+(848+d)=849+d by omega] at h1
      exact (hb.cell (cell_size h1)).trans h1)).mono (R':=IlR L2 W') (fun e w' h=>by unfold OnR at h;rw [hL2,hM2] at h;exact h))
    clear hL1 hL2 hM1 hM2 hok l1 l3 l4
    have hdr:Below wr.heap.size wr wr.drew:=(Below.refl _ wr).drew
    have hda:∀ o,Below wr.heap.size wr (wr.alloc o).drew:=fun o=>((Below.refl _ wr).alloc (Nat.le_refl _) o).drew
    have HWR:=Lib.hid hI.out.be
    have HCB:=Lib.hid (And.intro B1.out C1.out)
    clear hI HLT HLV HRC B1 C1
    go_upto_region 10 with fail
    go_region_held3 (fun w'=>Below wr.heap.size wr w') (first | exact below_set3 hn3 hn.size _ _ _ | exact below_set3 hn3 (Nat.le_refl _) _ _ _ | exact below_set3 (hn3.alloc hn3.size _) hn3.size _ _ _ | exact hdr | exact hda _ | exact hn3 | exact hn3.alloc hn3.size _ | exact hn | exact hn.alloc hn.size _ | assumption | fail) (first | (go_at_call 63;(with_reducible refine (HON1.out _ hdr).mono ?_);rintro e w2 ⟨u1,rfl,ho1,hb2⟩;obtain ⟨a1,c1,rfl⟩:=row_formN ho1;have hn:Below wr.heap.size wr w2:=below_step hdr hb2;(try (have z2:Blk w2 wr.heap.size 70 #[.slice none 0 0,.slice none 0 0,.slice none 0 0]:=Blk.below (W:=(wr.alloc (.cells #[.slice none 0 0,.slice none 0 0,.slice none 0 0] 70)).drew) (show Blk (wr.alloc (.cells #[.slice none 0 0,.slice none 0 0,.slice none 0 0] 70)) wr.heap.size 70 #[.slice none 0 0,.slice none 0 0,.slice none 0 0] from Blk.new wr 70 #[.slice none 0 0,.slice none 0 0,.slice none 0 0]) hb2))) | (go_at_call 63;(with_reducible refine (HON1.out _ (hda _)).mono ?_);rintro e w2 ⟨u1,rfl,ho1,hb2⟩;obtain ⟨a1,c1,rfl⟩:=row_formN ho1;have hn:Below wr.heap.size wr w2:=below_step (hda _) hb2;(try (have z2:Blk w2 wr.heap.size 70 #[.slice none 0 0,.slice none 0 0,.slice none 0 0]:=Blk.below (W:=(wr.alloc (.cells #[.slice none 0 0,.slice none 0 0,.slice none 0 0] 70)).drew) (show Blk (wr.alloc (.cells #[.slice none 0 0,.slice none 0 0,.slice none 0 0] 70)) wr.heap.size 70 #[.slice none 0 0,.slice none 0 0,.slice none 0 0] from Blk.new wr 70 #[.slice none 0 0,.slice none 0 0,.slice none 0 0]) hb2))) | (go_at_call 63;(with_reducible refine (HON2.out _ hn).mono ?_);rintro e w3 ⟨u2,rfl,ho2,hb3⟩;obtain ⟨a2,c2,rfl⟩:=row_formN ho2;have hn3:Below wr.heap.size wr w3:=below_step hn hb3;(first | (have z3:Blk w3 wr.heap.size 70 #[.slice none 0 0,.slice none 0 0,.slice none 0 0]:=z2.below hb3;have q0:w3.cell? ⟨wr.heap.size,0,none⟩=some (.slice none 0 0):=z3.cell 0;have q1:w3.cell? ⟨wr.heap.size,1,none⟩=some (.slice none 0 0):=z3.cell 1;have q2:w3.cell? ⟨wr.heap.size,2,none⟩=some (.slice none 0 0):=z3.cell 2;have p0:w3.frozen? ⟨wr.heap.size,0,none⟩=false:=z3.frozen 0;have p1:w3.frozen? ⟨wr.heap.size,1,none⟩=false:=z3.frozen 1;have p2:w3.frozen? ⟨wr.heap.size,2,none⟩=false:=z3.frozen 2) | (have z3:Blk w3 w2.heap.size 70 #[.slice none 0 0,.slice none 0 0,.slice none 0 0]:=(Blk.new w2 70 #[.slice none 0 0,.slice none 0 0,.slice none 0 0]).below hb3;have q0:w3.cell? ⟨w2.heap.size,0,none⟩=some (.slice none 0 0):=z3.cell 0;have q1:w3.cell? ⟨w2.heap.size,1,none⟩=some (.slice none 0 0):=z3.cell 1;have q2:w3.cell? ⟨w2.heap.size,2,none⟩=some (.slice none 0 0):=z3.cell 2;have p0:w3.frozen? ⟨w2.heap.size,0,none⟩=false:=z3.frozen 0;have p1:w3.frozen? ⟨w2.heap.size,1,none⟩=false:=z3.frozen 1;have p2:w3.frozen? ⟨w2.heap.size,2,none⟩=false:=z3.frozen 2) | skip)) | (go_at_call 63;(with_reducible refine (HON2.out _ (hn.alloc hn.size _)).mono ?_);rintro e w3 ⟨u2,rfl,ho2,hb3⟩;obtain ⟨a2,c2,rfl⟩:=row_formN ho2;have hn3:Below wr.heap.size wr w3:=below_step (hn.alloc hn.size _) hb3;(first | (have z3:Blk w3 wr.heap.size 70 #[.slice none 0 0,.slice none 0 0,.slice none 0 0]:=z2.below hb3;have q0:w3.cell? ⟨wr.heap.size,0,none⟩=some (.slice none 0 0):=z3.cell 0;have q1:w3.cell? ⟨wr.heap.size,1,none⟩=some (.slice none 0 0):=z3.cell 1;have q2:w3.cell? ⟨wr.heap.size,2,none⟩=some (.slice none 0 0):=z3.cell 2;have p0:w3.frozen? ⟨wr.heap.size,0,none⟩=false:=z3.frozen 0;have p1:w3.frozen? ⟨wr.heap.size,1,none⟩=false:=z3.frozen 1;have p2:w3.frozen? ⟨wr.heap.size,2,none⟩=false:=z3.frozen 2) | (have z3:Blk w3 w2.heap.size 70 #[.slice none 0 0,.slice none 0 0,.slice none 0 0]:=(Blk.new w2 70 #[.slice none 0 0,.slice none 0 0,.slice none 0 0]).below hb3;have q0:w3.cell? ⟨w2.heap.size,0,none⟩=some (.slice none 0 0):=z3.cell 0;have q1:w3.cell? ⟨w2.heap.size,1,none⟩=some (.slice none 0 0):=z3.cell 1;have q2:w3.cell? ⟨w2.heap.size,2,none⟩=some (.slice none 0 0):=z3.cell 2;have p0:w3.frozen? ⟨w2.heap.size,0,none⟩=false:=z3.frozen 0;have p1:w3.frozen? ⟨w2.heap.size,1,none⟩=false:=z3.frozen 1;have p2:w3.frozen? ⟨w2.heap.size,2,none⟩=false:=z3.frozen 2) | skip)) | fail)
    all_goals first
      | (have b1:=row_base ho1 hdr.size
         have b2:=row_base ho2 (Nat.le_trans hn.size ((Below.refl w2.heap.size w2).alloc (Nat.le_refl _) (.cells #[.slice none 0 0,.slice none 0 0,.slice none 0 0] 70)).size)
         have HX:=Lib.hid (show EhI wr w2.heap.size (.slice a1 L1.length c1) (.slice a2 L2.length c2) L1 L2 (((w3.setCell ⟨w2.heap.size,0,none⟩ (.slice none 0 0)).setCell ⟨w2.heap.size,1,none⟩ (.slice a1 L1.length c1)).setCell ⟨w2.heap.size,2,none⟩ (.slice a2 L2.length c2)) from EhI.set z3 (row_later (row_later b1 ((Below.refl w2.heap.size w2).alloc (Nat.le_refl _) (.cells #[.slice none 0 0,.slice none 0 0,.slice none 0 0] 70))) hb3) b2 hn3 hn.size)
         clear ho1 ho2 b1 b2 hn hn3 hb3
         generalize ((w3.setCell ⟨w2.heap.size,0,none⟩ (.slice none 0 0)).setCell ⟨w2.heap.size,1,none⟩ (.slice a1 L1.length c1)).setCell ⟨w2.heap.size,2,none⟩ (.slice a2 L2.length c2)=Wx at *
         obtain ⟨X,hX⟩:∃ X,w2.heap.size=X:=⟨_,rfl⟩
         rw [hX] at HX ⊢
         clear hX)
      | (have b1:=row_base ho1 (hda _).size
         have b2:=row_base ho2 hn.size
         have HX:=Lib.hid (show EhI wr wr.heap.size (.slice a1 L1.length c1) (.slice a2 L2.length c2) L1 L2 (((w3.setCell ⟨wr.heap.size,0,none⟩ (.slice none 0 0)).setCell ⟨wr.heap.size,1,none⟩ (.slice a1 L1.length c1)).setCell ⟨wr.heap.size,2,none⟩ (.slice a2 L2.length c2)) from EhI.set z3 (row_later b1 hb3) b2 hn3 (Nat.le_refl _))
         clear ho1 ho2 b1 b2 hn hn3 hb3
         generalize ((w3.setCell ⟨wr.heap.size,0,none⟩ (.slice none 0 0)).setCell ⟨wr.heap.size,1,none⟩ (.slice a1 L1.length c1)).setCell ⟨wr.heap.size,2,none⟩ (.slice a2 L2.length c2)=Wx at *
         obtain ⟨X,hX⟩:∃ X,wr.heap.size=X:=⟨_,rfl⟩
         rw [hX] at HX ⊢
         clear hX)
      | (have b1:=row_base ho1 hdr.size
         have b2:=row_base ho2 hn.size
         have HX:=Lib.hid (show EhI wr w3.heap.size (.slice a1 L1.length c1) (.slice a2 L2.length c2) L1 L2 (w3.alloc (.cells #[.slice none 0 0,(.slice a1 L1.length c1),(.slice a2 L2.length c2)] 70)) from EhI.last ho1 hdr.size ho2 hn hb3)
         clear ho1 ho2 b1 b2 hn hn3 hb3
         generalize w3.alloc (.cells #[.slice none 0 0,(.slice a1 L1.length c1),(.slice a2 L2.length c2)] 70)=Wx at *
         obtain ⟨X,hX⟩:∃ X,w3.heap.size=X:=⟨_,rfl⟩
         rw [hX] at HX ⊢
         clear hX)
      | fail
    all_goals
      have HK:=Lib.hid (HX.out.start (fun d=>playedL (onV l) d))
      have HBX:=Lib.hid (below_step (below_step HB1.out HWR.out) HX.out.be)
      have x0:Wx.cell? ⟨w.heap.size,0,none⟩=some (.slice ad S.ds.length cd):=((HCB.out.1.below HWR.out).below HX.out.be).cell 0
      clear HX HON1 HON2 hdr hda
      go_wp2
      go_loopw [45] (fun x A=>∃ (d:Nat) (g:Nat→Value) (vk:Value),d≤S.ds.length∧x = .int .i64 d∧RowKit.Hid (EkI wr X (.slice a1 L1.length c1) (.slice a2 L2.length c2) L1 L2 (fun d=>playedL (onV l) d) g d vk A)) (fun x _=>S.ds.length-(intOf x).toNat)
      case atStart=>exact ⟨0,_,_,Nat.zero_le _,rfl,HK⟩
      clear HK x0 HBX
      obtain ⟨d,g,vk,hd,rfl,hK⟩:=hrel
      by_cases hdl:d<S.ds.length
      · have hd2:(d:Int)<(S.ds.length:Int):=by omega
        rename World=>A
        have HON:=Lib.hid (fun (W':World) (hb:Below A.heap.size A W')=>(on_any (fun i=>decide (onV l (1,(d:Int),(i:Int))=1)) 128 (by omega) W.heap.size (1+d * 128) 128 W' (Nat.lt_of_lt_of_le HP.out.lt (Nat.le_trans hK.out.be.size hb.size)) (fun k hk=>by
          have h1:=HP.out.on (onIx_key (d:=d) (n:=k) (by have:=sp_lens HCKZ.out;omega) hk)
          rw [show 1+(d * 128+k)=1+d * 128+k by omega] at h1
          have hbb:=below_step hK.out.be hb
          exact (hbb.cell (cell_size h1)).trans h1)).mono (R':=IlR (playedL (onV l) d) W') (fun e w' h=>by unfold OnR at h;rw [onI_played] at h;exact h))
        have m0:A.cell? ⟨X,0,none⟩=some vk:=hK.out.bx.cell 0
        have hd6:d<6:=by have:=sp_lens HCKZ.out;omega
        have hd7:(d:Int)<6:=by omega
        have hdr:Below A.heap.size A A.drew:=(Below.refl _ A).drew
        have md:A.drew.cell? ⟨X,0,none⟩=some vk:=m0
        have hpl:=len_playedL (onV l) d
        obtain ⟨PL,hPL⟩:∃ PL,playedL (onV l) d=PL:=⟨_,rfl⟩
        have HEK:=Lib.hid hK.out
        have HPN:=Lib.hid (fun (z:World) (hz:Below A.heap.size A z) (v:Value) (hv:z.ownsRow wr.heap.size 3 1 v PL.length (iCs PL)) (A2:World) (vk':Value) (hg:z.grownBy A2 vk.ownBlock) (ho:A2.ownsRow wr.heap.size 68 1 vk' (d+1) ((List.range d).map g++[v]))=>(hK.out.later hz).pushN (G:=fun d=>playedL (onV l) d) (by show z.ownsRow wr.heap.size 3 1 v (playedL (onV l) d).length (iCs (playedL (onV l) d));rw [hPL];exact hv) hg ho)
        have HKB:=Lib.hid hK.out.be
        rw [hPL] at HON hpl
        clear HE HCB HSP HP HCKZ HM HB1 hPL m0 md hK hdr
        go_upto_region 14 with fail
        have hmxx:Tryz.prog.follows .mixedOrders=true:=by kernel_rfl
        refine wp_normal (wp_region_flowJ (fun xX=>{ tmps:=#[.agg #[.slice ad S.ds.length cd,v2,v3,v4],.slice al l.length cl,.pointer (some ⟨w.heap.size,0,none⟩),undef,.pointer (some ⟨w.heap.size+1,0,none⟩),.int .i64 0,.int .i64 0,.pointer (some ⟨W.heap.size,0,none⟩),u8,.pointer (some ⟨X,0,none⟩),.int .i64 (d:Int),.slice al l.length cl,.slice (some ⟨w.heap.size+1+1,0,none⟩) 1 1,.int .i64 0,.int .i64 0,.bool false,undef,undef,.agg (Tryz.zeroCells134.setIfInBounds 0 (.pointer (some ⟨w.heap.size,0,none⟩))),.pointer (some ⟨W.heap.size,0,none⟩),.slice al l.length cl,.int .i64 (l.length:Int),.int .i64 (i:Int),.bool false,u24,u25,u26,u27,u28,u29,u30,.pointer (some ⟨W.heap.size,0,none⟩),.pointer (some ⟨W.heap.size,0,none⟩),.pointer (some ⟨W.heap.size,769,none⟩),.slice (some ⟨W.heap.size,769,none⟩) 80 80,.slice a1 L1.length c1,.pointer (some ⟨W.heap.size,0,none⟩),.pointer (some ⟨W.heap.size,0,none⟩),.pointer (some ⟨W.heap.size,849,none⟩),.slice (some ⟨W.heap.size,849,none⟩) 24 24,.slice a2 L2.length c2,.agg #[.slice none 0 0,.slice a1 L1.length c1,.slice a2 L2.length c2],.pointer (some ⟨w.heap.size,0,none⟩),.slice ad S.ds.length cd,.int .i64 (S.ds.length:Int),.int .i64 (d:Int),.bool true,.int .i64 (d:Int),(xX 48),(xX 49),(xX 50),(xX 51),(xX 52),(xX 53),(xX 54),(xX 55),(xX 56),(xX 57),(xX 58),(xX 59),u60,undef],defers:=[] }) (fun iI v z=>match iI with
          | 0=>v = .pointer (some ⟨X,0,none⟩)
          | 1=>v=vk
          | 2=>v = .pointer (some ⟨W.heap.size,0,none⟩)
          | 3=>v = .int .i64 d
          | 4=>v = .pointer (some ⟨W.heap.size,0,none⟩)
          | 5=>v = .pointer (some ⟨W.heap.size,1,none⟩)
          | 6=>v = .pointer (some ⟨W.heap.size,1+d * 128,none⟩)
          | 7=>v = .slice (some ⟨W.heap.size,1+d * 128,none⟩) 128 128
          | 8=>∃ (a9:Option Addr) (c9:Nat),v = .slice a9 PL.length c9∧z.ownsRow wr.heap.size 3 1 (.slice a9 PL.length c9) PL.length (iCs PL)
          | 9=>∃ (bb c9:Nat) (a9:Option Addr),v = .slice (some ⟨bb,0,none⟩) 1 1∧z.ownsRow wr.heap.size 3 1 (.slice a9 PL.length c9) PL.length (iCs PL)∧vk.ownBlock≠some bb∧z.cell? ⟨bb,0,none⟩=some (.slice a9 PL.length c9)
          | 10=>∃ (gg cap c9:Nat) (a9:Option Addr),v = .slice (some ⟨gg,0,none⟩) (d+1) cap∧EkN wr X (.slice a1 L1.length c1) (.slice a2 L2.length c2) L1 L2 (fun d=>playedL (onV l) d) g d vk (.slice (some ⟨gg,0,none⟩) (d+1) cap) (.slice a9 PL.length c9) z
          | 11=>v = .pointer (some ⟨X,0,none⟩)
          | 12=>True
          | _=>True) (JA 10 12 A (fun _ z=>∃ (vk':Value) (g':Nat→Value),EkI wr X (.slice a1 L1.length c1) (.slice a2 L2.length c2) L1 L2 (fun d=>playedL (onV l) d) g' (d+1) vk' z)) (fun n=>(#[.agg #[.slice ad S.ds.length cd,v2,v3,v4],.slice al l.length cl,.pointer (some ⟨w.heap.size,0,none⟩),undef,.pointer (some ⟨w.heap.size+1,0,none⟩),.int .i64 0,.int .i64 0,.pointer (some ⟨W.heap.size,0,none⟩),u8,.pointer (some ⟨X,0,none⟩),.int .i64 (d:Int),.slice al l.length cl,.slice (some ⟨w.heap.size+1+1,0,none⟩) 1 1,.int .i64 0,.int .i64 0,.bool false,undef,undef,.agg (Tryz.zeroCells134.setIfInBounds 0 (.pointer (some ⟨w.heap.size,0,none⟩))),.pointer (some ⟨W.heap.size,0,none⟩),.slice al l.length cl,.int .i64 (l.length:Int),.int .i64 (i:Int),.bool false,u24,u25,u26,u27,u28,u29,u30,.pointer (some ⟨W.heap.size,0,none⟩),.pointer (some ⟨W.heap.size,0,none⟩),.pointer (some ⟨W.heap.size,769,none⟩),.slice (some ⟨W.heap.size,769,none⟩) 80 80,.slice a1 L1.length c1,.pointer (some ⟨W.heap.size,0,none⟩),.pointer (some ⟨W.heap.size,0,none⟩),.pointer (some ⟨W.heap.size,849,none⟩),.slice (some ⟨W.heap.size,849,none⟩) 24 24,.slice a2 L2.length c2,.agg #[.slice none 0 0,.slice a1 L1.length c1,.slice a2 L2.length c2],.pointer (some ⟨w.heap.size,0,none⟩),.slice ad S.ds.length cd,.int .i64 (S.ds.length:Int),.int .i64 (d:Int),.bool true,.int .i64 (d:Int),u48,u49,u50,u51,u52,u53,u54,u55,u56,u57,u58,u59,u60,undef]:Array Value).getD n undef) rfl hmxx (by kernel_rfl) (by kernel_rfl) (ja_start (of_decide_eq_true (by kernel_rfl))) (fun ℓ ℓ' xX w h hj=>ja_cong (of_decide_eq_true (by kernel_rfl)) (of_decide_eq_true (by kernel_rfl)) ℓ ℓ' xX w h hj) ?put ?step ?done)
        case put =>
          intro iI oO dD ho hd xX vV
          match iI,ho with
          | 0,ho=>obtain rfl:=Option.some.inj (show some _=some oO from ho);obtain rfl:=Option.some.inj (show some _=some dD from hd);rfl
          | 1,ho=>obtain rfl:=Option.some.inj (show some _=some oO from ho);obtain rfl:=Option.some.inj (show some _=some dD from hd);rfl
          | 2,ho=>obtain rfl:=Option.some.inj (show some _=some oO from ho);obtain rfl:=Option.some.inj (show some _=some dD from hd);rfl
          | 3,ho=>obtain rfl:=Option.some.inj (show some _=some oO from ho);obtain rfl:=Option.some.inj (show some _=some dD from hd);rfl
          | 4,ho=>obtain rfl:=Option.some.inj (show some _=some oO from ho);obtain rfl:=Option.some.inj (show some _=some dD from hd);rfl
          | 5,ho=>obtain rfl:=Option.some.inj (show some _=some oO from ho);obtain rfl:=Option.some.inj (show some _=some dD from hd);rfl
          | 6,ho=>obtain rfl:=Option.some.inj (show some _=some oO from ho);obtain rfl:=Option.some.inj (show some _=some dD from hd);rfl
          | 7,ho=>obtain rfl:=Option.some.inj (show some _=some oO from ho);obtain rfl:=Option.some.inj (show some _=some dD from hd);rfl
          | 8,ho=>obtain rfl:=Option.some.inj (show some _=some oO from ho);obtain rfl:=Option.some.inj (show some _=some dD from hd);rfl
          | 9,ho=>obtain rfl:=Option.some.inj (show some _=some oO from ho);obtain rfl:=Option.some.inj (show some _=some dD from hd);rfl
          | 10,ho=>obtain rfl:=Option.some.inj (show some _=some oO from ho);obtain rfl:=Option.some.inj (show some _=some dD from hd);rfl
          | 11,ho=>obtain rfl:=Option.some.inj (show some _=some oO from ho);obtain rfl:=Option.some.inj (show some _=some dD from hd);rfl
          | 12,ho=>obtain rfl:=Option.some.inj (show some _=some oO from ho);cases hd
          | n+13,ho=>exact absurd (Array.getElem?_eq_some_iff.1 ho).1 (by simp)
        case step =>
          intro iI oO ho ℓ xX z hj hli hup hdl hdep K hK
          match iI,ho with
          | 0,ho =>
            obtain rfl:=Option.some.inj (show some _=some oO from ho)
            have hls:ℓ 12=false:=hup 12 12 (by kernel_rfl)
            have hPl:=fun xx w' (hb:Below z.heap.size z w')=>ja_plain (i:=0) (x':=xx) hj (by decide) (by decide) hls hb
            clear hdep ho hup
            dsimp only at hK ⊢
            refine wpOp_step rfl (fun K2 hK2=>?_)
            go_simp
            exact hK2 _ _ (hK _ _ (hPl _ _ (Below.refl _ _)) (fun _ _ _ _ h=>h) rfl)
          | 1,ho =>
            obtain rfl:=Option.some.inj (show some _=some oO from ho)
            have q0:xX 48 = .pointer (some ⟨X,0,none⟩):=hdep 0 (by kernel_rfl) _ _ rfl rfl
            have hls:ℓ 12=false:=hup 12 12 (by kernel_rfl)
            have hPl:=fun xx w' (hb:Below z.heap.size z w')=>ja_plain (i:=1) (x':=xx) hj (by decide) (by decide) hls hb
            have hz:=hj.1 (hup 12 10 (by kernel_rfl))
            have c0:z.cell? ⟨X,0,none⟩=some vk:=(HEK.out.later hz).bx.cell 0
            clear hdep ho hup
            dsimp only at hK ⊢
            simp only [q0] at hK ⊢
            refine wpOp_step rfl (fun K2 hK2=>?_)
            go_simp
            exact hK2 _ _ (hK _ _ (hPl _ _ (Below.refl _ _)) (fun _ _ _ _ h=>h) rfl)
          | 2,ho =>
            obtain rfl:=Option.some.inj (show some _=some oO from ho)
            have hls:ℓ 12=false:=hup 12 12 (by kernel_rfl)
            have hPl:=fun xx w' (hb:Below z.heap.size z w')=>ja_plain (i:=2) (x':=xx) hj (by decide) (by decide) hls hb
            clear hdep ho hup
            dsimp only at hK ⊢
            refine wpOp_step rfl (fun K2 hK2=>?_)
            go_simp
            exact hK2 _ _ (hK _ _ (hPl _ _ (Below.refl _ _)) (fun _ _ _ _ h=>h) rfl)
          | 3,ho =>
            obtain rfl:=Option.some.inj (show some _=some oO from ho)
            have hls:ℓ 12=false:=hup 12 12 (by kernel_rfl)
            have hPl:=fun xx w' (hb:Below z.heap.size z w')=>ja_plain (i:=3) (x':=xx) hj (by decide) (by decide) hls hb
            clear hdep ho hup
            dsimp only at hK ⊢
            refine wpOp_step rfl (fun K2 hK2=>?_)
            go_simp
            exact hK2 _ _ (hK _ _ (hPl _ _ (Below.refl _ _)) (fun _ _ _ _ h=>h) rfl)
          | 4,ho =>
            obtain rfl:=Option.some.inj (show some _=some oO from ho)
            have q2:xX 50 = .pointer (some ⟨W.heap.size,0,none⟩):=hdep 2 (by kernel_rfl) _ _ rfl rfl
            have hls:ℓ 12=false:=hup 12 12 (by kernel_rfl)
            have hPl:=fun xx w' (hb:Below z.heap.size z w')=>ja_plain (i:=4) (x':=xx) hj (by decide) (by decide) hls hb
            clear hdep ho hup
            dsimp only at hK ⊢
            simp only [q2] at hK ⊢
            refine wpOp_step rfl (fun K2 hK2=>?_)
            go_simp
            exact hK2 _ _ (hK _ _ (hPl _ _ (Below.refl _ _)) (fun _ _ _ _ h=>h) rfl)
          | 5,ho =>
            obtain rfl:=Option.some.inj (show some _=some oO from ho)
            have q4:xX 52 = .pointer (some ⟨W.heap.size,0,none⟩):=hdep 4 (by kernel_rfl) _ _ rfl rfl
            have hls:ℓ 12=false:=hup 12 12 (by kernel_rfl)
            have hPl:=fun xx w' (hb:Below z.heap.size z w')=>ja_plain (i:=5) (x':=xx) hj (by decide) (by decide) hls hb
            clear hdep ho hup
            dsimp only at hK ⊢
            simp only [q4] at hK ⊢
            refine wpOp_step rfl (fun K2 hK2=>?_)
            go_simp
            exact hK2 _ _ (hK _ _ (hPl _ _ (Below.refl _ _)) (fun _ _ _ _ h=>h) rfl)
          | 6,ho =>
            obtain rfl:=Option.some.inj (show some _=some oO from ho)
            have q5:xX 53 = .pointer (some ⟨W.heap.size,1,none⟩):=hdep 5 (by kernel_rfl) _ _ rfl rfl
            have q3:xX 51 = .int .i64 d:=hdep 3 (by kernel_rfl) _ _ rfl rfl
            have hls:ℓ 12=false:=hup 12 12 (by kernel_rfl)
            have hPl:=fun xx w' (hb:Below z.heap.size z w')=>ja_plain (i:=6) (x':=xx) hj (by decide) (by decide) hls hb
            clear hdep ho hup
            dsimp only at hK ⊢
            simp only [q5,q3] at hK ⊢
            refine wpOp_step rfl (fun K2 hK2=>?_)
            go_simp
            exact hK2 _ _ (hK _ _ (hPl _ _ (Below.refl _ _)) (fun _ _ _ _ h=>h) rfl)
          | 7,ho =>
            obtain rfl:=Option.some.inj (show some _=some oO from ho)
            have q6:xX 54 = .pointer (some ⟨W.heap.size,1+d * 128,none⟩):=hdep 6 (by kernel_rfl) _ _ rfl rfl
            have hls:ℓ 12=false:=hup 12 12 (by kernel_rfl)
            have hPl:=fun xx w' (hb:Below z.heap.size z w')=>ja_plain (i:=7) (x':=xx) hj (by decide) (by decide) hls hb
            clear hdep ho hup
            dsimp only at hK ⊢
            simp only [q6] at hK ⊢
            refine wpOp_step rfl (fun K2 hK2=>?_)
            go_simp
            exact hK2 _ _ (hK _ _ (hPl _ _ (Below.refl _ _)) (fun _ _ _ _ h=>h) rfl)
          | 8,ho =>
            obtain rfl:=Option.some.inj (show some _=some oO from ho)
            have q7:xX 55 = .slice (some ⟨W.heap.size,1+d * 128,none⟩) 128 128:=hdep 7 (by kernel_rfl) _ _ rfl rfl
            have hls:ℓ 12=false:=hup 12 12 (by kernel_rfl)
            have hPl:=fun xx w' (hb:Below z.heap.size z w')=>ja_plain (i:=8) (x':=xx) hj (by decide) (by decide) hls hb
            have hz:=hj.1 (hup 12 10 (by kernel_rfl))
            clear hdep ho hup
            dsimp only at hK ⊢
            simp only [q7] at hK ⊢
            refine wpOp_step rfl (fun K2 hK2=>?_)
            go_simp
            refine (HON.out z hz).mono ?_
            rintro e z1 ⟨u,rfl,ho,hb⟩
            obtain ⟨a9,c9,rfl⟩:=row_formN ho
            refine hK2 _ _ (hK _ _ (hPl _ _ hb) ?_ ⟨a9,c9,rfl,row_base ho (Nat.le_trans HKB.out.size hz.size)⟩)
            intro j v' hlj _ h
            match j,h with
            | 0,h=>exact h
            | 1,h=>exact h
            | 2,h=>exact h
            | 3,h=>exact h
            | 4,h=>exact h
            | 5,h=>exact h
            | 6,h=>exact h
            | 7,h=>exact h
            | 8,h=>obtain ⟨a9,c9,e,r⟩:=h;exact ⟨a9,c9,e,row_later r hb⟩
            | 9,h=>obtain ⟨bb,c9,a9,e,r,ne,c0⟩:=h;exact ⟨bb,c9,a9,e,row_later r hb,ne,(hb.cell (cell_size c0)).trans c0⟩
            | 10,h=>obtain ⟨gg,cap,c9,a9,e,r⟩:=h;exact ⟨gg,cap,c9,a9,e,r.later hb⟩
            | 11,h=>exact h
            | 12,h=>exact h
            | _+13,_=>trivial
          | 9,ho =>
            obtain rfl:=Option.some.inj (show some _=some oO from ho)
            have h8:∃ (a9:Option Addr) (c9:Nat),xX 56 = .slice a9 PL.length c9∧z.ownsRow wr.heap.size 3 1 (.slice a9 PL.length c9) PL.length (iCs PL):=hdep 8 (by kernel_rfl) _ _ rfl rfl
            obtain ⟨a9,c9,q8,r8⟩:=h8
            have hls:ℓ 12=false:=hup 12 12 (by kernel_rfl)
            have hPl:=fun xx w' (hb:Below z.heap.size z w')=>ja_plain (i:=9) (x':=xx) hj (by decide) (by decide) hls hb
            have hz:=hj.1 (hup 12 10 (by kernel_rfl))
            clear hdep ho hup
            dsimp only at hK ⊢
            simp only [q8] at hK ⊢
            refine wpOp_step rfl (fun K2 hK2=>?_)
            go_simp
            have hb:Below z.heap.size z (z.alloc (.cells #[.slice a9 PL.length c9] 68)):=(Below.refl _ _).alloc (Nat.le_refl _) _
            have hk:=Blk.new z 68 #[.slice a9 PL.length c9]
            refine hK2 _ _ (hK _ _ (hPl _ _ hb) ?_ ⟨z.heap.size,c9,a9,rfl,row_later r8 hb,fun e=>Nat.lt_irrefl _ (own_ltA (HEK.out.later hz).ks e),hk.cell 0⟩)
            intro j v' hlj _ h
            match j,h with
            | 0,h=>exact h
            | 1,h=>exact h
            | 2,h=>exact h
            | 3,h=>exact h
            | 4,h=>exact h
            | 5,h=>exact h
            | 6,h=>exact h
            | 7,h=>exact h
            | 8,h=>obtain ⟨a9,c9,e,r⟩:=h;exact ⟨a9,c9,e,row_later r hb⟩
            | 9,h=>obtain ⟨bb,c9,a9,e,r,ne,c0⟩:=h;exact ⟨bb,c9,a9,e,row_later r hb,ne,(hb.cell (cell_size c0)).trans c0⟩
            | 10,h=>obtain ⟨gg,cap,c9,a9,e,r⟩:=h;exact ⟨gg,cap,c9,a9,e,r.later hb⟩
            | 11,h=>exact h
            | 12,h=>exact h
            | _+13,_=>trivial
          | 10,ho =>
            obtain rfl:=Option.some.inj (show some _=some oO from ho)
            have q1:xX 49=vk:=hdep 1 (by kernel_rfl) _ _ rfl rfl
            have h9:∃ (bb c9:Nat) (a9:Option Addr),xX 57 = .slice (some ⟨bb,0,none⟩) 1 1∧z.ownsRow wr.heap.size 3 1 (.slice a9 PL.length c9) PL.length (iCs PL)∧vk.ownBlock≠some bb∧z.cell? ⟨bb,0,none⟩=some (.slice a9 PL.length c9):=hdep 9 (by kernel_rfl) _ _ rfl rfl
            obtain ⟨bb,c9,a9,q9,r9,ne9,c9c⟩:=h9
            have hz:=hj.1 hli
            have hls:ℓ 12=false:=hup 12 12 (by kernel_rfl)
            clear hdep ho hup
            dsimp only at hK ⊢
            simp only [q1,q9] at hK ⊢
            refine wpOp_step rfl (fun K2 hK2=>?_)
            refine step_append_lies _ rfl _ _ 67 rfl wr.heap.size 68 j0 _ 1 24 Tryz.underlying67 hj0 jz0 jz1 jz2 rfl (by omega) _ _ _ rfl (HEK.out.later hz).ks ⟨bb,0,none⟩ 1 1 [.slice a9 PL.length c9] rfl rfl (fun j u hu=>match j,hu with | 0,hu=>by cases hu;exact c9c | _+1,hu=>by cases hu) (by simp [Value.oneCell']) (by omega) (by unfold maxLen;omega) (by omega) (HEK.out.later hz).be.size z.heap.size rfl ?_
            intro gg cap w3 hown hgrow hat hlt
            refine hK2 _ _ (hK _ _ (ja_mid (by decide) hls) ?_ ⟨gg,cap,c9,a9,rfl,HPN.out z hz _ r9 w3 _ hgrow hown⟩)
            intro j v' hlj _ h
            match j,h with
            | 0,h=>exact h
            | 1,h=>exact h
            | 2,h=>exact h
            | 3,h=>exact h
            | 4,h=>exact h
            | 5,h=>exact h
            | 6,h=>exact h
            | 7,h=>exact h
            | 8,h=>obtain ⟨a9,c9,e,r⟩:=h;exact ⟨a9,c9,e,r.kept hgrow (row_apart r (HEK.out.later hz).ks (by decide))⟩
            | 9,h=>obtain ⟨bb,c9,a9,e,r,ne,c0⟩:=h;exact ⟨bb,c9,a9,e,r.kept hgrow (row_apart r (HEK.out.later hz).ks (by decide)),ne,hgrow.cell c0 (fun q=>ne q.symm)⟩
            | 10,h=>rw [hli] at hlj;cases hlj
            | 11,h=>exact h
            | 12,h=>exact h
            | _+13,_=>trivial
          | 11,ho =>
            obtain rfl:=Option.some.inj (show some _=some oO from ho)
            have hls:ℓ 12=false:=hup 12 12 (by kernel_rfl)
            have hPl:=fun xx w' (hb:Below z.heap.size z w')=>ja_plain (i:=11) (x':=xx) hj (by decide) (by decide) hls hb
            clear hdep ho hup
            dsimp only at hK ⊢
            refine wpOp_step rfl (fun K2 hK2=>?_)
            go_simp
            exact hK2 _ _ (hK _ _ (hPl _ _ (Below.refl _ _)) (fun _ _ _ _ h=>h) rfl)
          | 12,ho =>
            obtain rfl:=Option.some.inj (show some _=some oO from ho)
            have q11:xX 59 = .pointer (some ⟨X,0,none⟩):=hdep 11 (by kernel_rfl) _ _ rfl rfl
            have h10:∃ (gg cap c9:Nat) (a9:Option Addr),xX 58 = .slice (some ⟨gg,0,none⟩) (d+1) cap∧EkN wr X (.slice a1 L1.length c1) (.slice a2 L2.length c2) L1 L2 (fun d=>playedL (onV l) d) g d vk (.slice (some ⟨gg,0,none⟩) (d+1) cap) (.slice a9 PL.length c9) z:=hdep 10 (by kernel_rfl) _ _ rfl rfl
            obtain ⟨gg,cap,c9,a9,q10,r10⟩:=h10
            have s1:=r10.bx.cell 0
            have s2:=r10.bx.frozen 0
            clear hdep ho hup
            dsimp only at hK ⊢
            simp only [q11,q10] at hK ⊢
            refine wpOp_step rfl (fun K2 hK2=>?_)
            go_simp
            exact hK2 _ _ (hK undef _ (ja_last (.inr (hdl 1 10 (by kernel_rfl))) ⟨_,_,r10.store⟩) (fun _ _ _ hp _=>absurd hp (lastB_spec (by kernel_rfl) hdl)) trivial)
          | n+13,ho=>exact absurd (Array.getElem?_eq_some_iff.1 ho).1 (by simp)
        case done =>
          intro ℓ xX z hall hj
          have hf:=hj.2 (hall 12 (of_decide_eq_true (by kernel_rfl)))
          obtain ⟨vk',g',hfl⟩:=hf
          have HFL:=Lib.hid hfl
          clear hj hfl
          dsimp only
          go_wp2
          go_roundw
          case rel=>exact ⟨d+1,g',vk',by omega,by go_num,HFL⟩
          case measure=>simp [intOf];omega
      · have hd2:¬ (d:Int)<(S.ds.length:Int):=by omega
        have hde:d=S.ds.length:=by omega
        subst hde
        rename World=>A
        have HRD:=Lib.hid (show HdRd A vk (.slice a1 L1.length c1) (.slice a2 L2.length c2) S (onV l) from EkI.rd (by rw [HM.out.1,HM.out.2];exact hK.out))
        obtain ⟨⟨ak,ck,rfl⟩,_,_⟩:=HRD.out.forms
        have m0:A.cell? ⟨X,0,none⟩=some (.slice ak S.ds.length ck):=hK.out.bx.cell 0
        have m1:A.cell? ⟨X,1,none⟩=some (.slice a1 L1.length c1):=hK.out.bx.cell 1
        have m2:A.cell? ⟨X,2,none⟩=some (.slice a2 L2.length c2):=hK.out.bx.cell 2
        have C2:=Lib.hid ((HCB.out.2.below HWR.out).below hK.out.be)
        have r0:A.cell? ⟨w.heap.size+1,0,none⟩=some (.slice none 0 0):=C2.out.cell 0
        have r1:A.cell? ⟨w.heap.size+1,1,none⟩=some (.slice none 0 0):=C2.out.cell 1
        have r2:A.cell? ⟨w.heap.size+1,2,none⟩=some (.slice none 0 0):=C2.out.cell 2
        have f0:=C2.out.frozen 0
        have f1:=C2.out.frozen 1
        have f2:=C2.out.frozen 2
        have HBL:=Lib.hid (hd_blk C2.out rfl (.slice ak S.ds.length ck) (.slice a1 L1.length c1) (.slice a2 L2.length c2))
        have HG:=Lib.hid (((set_grown A (w.heap.size+1) 0 (.slice ak S.ds.length ck)).trans (set_grown _ (w.heap.size+1) 1 (.slice a1 L1.length c1))).trans (set_grown _ (w.heap.size+1) 2 (.slice a2 L2.length c2)))
        have HB9:=Lib.hid (below_step (below_step HB1.out HWR.out) hK.out.be)
        have HB3:=Lib.hid (HB9.out.grown HG.out HB9.out.size (fun r e=>by cases e;omega))
        have HRZ:=Lib.hid (EkI.rdG (f:=onV l) (by rw [HM.out.1,HM.out.2];exact hK.out) HG.out (Nat.lt_of_lt_of_le HCB.out.2.lt HWR.out.size))
        clear HRD hK
        go_wp2
        refine bodyPost_ret (results_cell_row_tmp rfl _ _ (w.heap.size+1) 70 _ (0,0) _ rfl HBL.out Tryz.underlying70 rfl (by kernel_rfl)) rfl ?_
        exact ⟨(.slice ak S.ds.length ck),(.slice a1 L1.length c1),(.slice a2 L2.length c2),by show Ending.returned (.tuple #[.agg #[(.slice ak S.ds.length ck),(.slice a1 L1.length c1),(.slice a2 L2.length c2)],.int .i64 0])=_;rw [HE.out],fun _=>HRZ.out,fun h=>absurd HE.out h,HB3.out⟩
end Go.Proofs.YthhfmppealmblaaGreatDoor
namespace Go.Proofs.YthhfmppealmblaaGreatDoor
def wtR:List (Int × Bool)→Int
 | []=>0
 | [_]=>0
 | (u,b) :: (v,c) :: r=>(if b then v-u else 0)+wtR ((v,c) :: r)
def tmR:Bool→List (Int × Bool)→Int
 | _,[]=>0
 | was,(_,b) :: ms=>(if b && !was then 1 else 0)+tmR b ms
def lstB (was:Bool):List (Int × Bool)→Bool
 | []=>was
 | (_,b) :: ms=>lstB b ms
theorem lstB_snoc {u:Int} {b:Bool}:∀ {was:Bool} {ms:List (Int × Bool)},lstB was (ms++[(u,b)])=b
 | _,[]=>rfl
 | _,(_,_) :: ms=>lstB_snoc (ms:=ms)
theorem tmR_nonneg:∀ {was:Bool} {ms:List (Int × Bool)},0≤tmR was ms∧tmR was ms≤ms.length
 | _,[]=>by simp [tmR]
 | was,(_,b) :: ms=>by
  have:=tmR_nonneg (was:=b) (ms:=ms)
  rw [tmR,List.length_cons]
  push_cast
  split <;> omega
def wcT (last:Int):List Cg→Int
 | []=>0
 | x :: l=>x.2.2.1 * (last-x.1)+wcT last l
def wcN:List Cg→Int
 | []=>0
 | x :: l=>max 0 x.2.2.1+wcN l
theorem wcT_append (last:Int) (a b:List Cg):wcT last (a++b)=wcT last a+wcT last b:=by
 induction a with
 | nil=>simp [wcT]
 | cons x a ih=>rw [List.cons_append,wcT,wcT,ih];omega
theorem wcN_append (a b:List Cg):wcN (a++b)=wcN a+wcN b:=by
 induction a with
 | nil=>simp [wcN]
 | cons x a ih=>rw [List.cons_append,wcN,wcN,ih];omega
theorem wcN_chP (p:Pp):∀ (was:Bool) (ms:List (Int × Bool)),wcN (chP p was ms)=tmR was ms
 | _,[]=>rfl
 | was,(u,b) :: ms=>by
  rw [chP,wcN_append,wcN_chP p b ms,tmR]
  congr 1
  cases b <;> cases was <;> rfl
theorem wcT_chP (p:Pp) (last:Int):∀ (was:Bool) (ms:List (Int × Bool)) (u:Int) (b:Bool),(ms++[(u,b)]).getLast?.map (·.1)=some last→wcT last (chP p was (ms++[(u,b)]))+nB was * (last-((ms++[(u,b)]).head?.map (·.1)).getD 0)=wtR (ms++[(u,b)])
 | was,[],u,b,h=>by
  have:u=last:=by simpa using h
  subst this
  simp only [List.nil_append,chP,List.append_nil,wtR]
  split <;> simp [wcT]
 | was,(v,c) :: ms,u,b,h=>by
  have h2:(ms++[(u,b)]).getLast?.map (·.1)=some last:=by
   rw [← h,List.cons_append]
   cases ms with
   | nil=>rfl
   | cons y ms=>rfl
  have ih:=wcT_chP p last c ms u b h2
  rw [List.cons_append,chP,wcT_append]
  obtain ⟨⟨z,d⟩,r,e⟩:∃ zd r,ms++[(u,b)]=zd :: r:=by
   cases ms with
   | nil=>exact ⟨_,_,rfl⟩
   | cons y ms=>exact ⟨_,_,rfl⟩
  rw [e] at ih ⊢
  simp only [List.head?_cons,Option.map_some,Option.getD_some] at ih ⊢
  rw [wtR,← ih]
  have k:wcT last (if c=was then [] else [(v,p,nB c-nB was,0)])=(nB c-nB was) * (last-v):=by
   split
   ·next q=>rw [q,Int.sub_self,Int.zero_mul];rfl
   ·simp [wcT]
  rw [k,Int.sub_mul]
  cases c
  ·simp only [nB,Bool.false_eq_true,if_false,Int.zero_mul]
   omega
  ·simp only [nB,if_true,Int.one_mul]
   omega
theorem chP_nil (p:Pp):∀ (ms:List (Int × Bool)),chP p false ms=[] ↔ tmR false ms=0
 | []=>⟨fun _=>rfl,fun _=>rfl⟩
 | (u,b) :: ms=>by
  rw [chP,tmR]
  cases b with
  | true =>
   have:=tmR_nonneg (was:=true) (ms:=ms)
   simp
   omega
  | false =>
   have:=chP_nil p ms
   simpa using this
def wrN (B:(Th→Int)→Pp→Bool) (l:List Ev) (p:Pp):Int:=tmR false (momP B l p l.length)
def wrT (B:(Th→Int)→Pp→Bool) (l:List Ev) (p:Pp):Int:=wtR (momP B l p l.length)
abbrev We:=Pp × Int × Int
def wearL (S:Sp) (B:(Th→Int)→Pp→Bool) (l:List Ev):List We:=((allFrom 0 S.rs).filter fun p=>decide (0<wrN B l p)).map fun p=>(p,wrN B l p,wrT B l p)
def wearV (S:Sp) (B:(Th→Int)→Pp→Bool) (l:List Ev):List We:=if audE S l=0 then wearL S B l else []
def weLt (a b:We):Prop:=ppLt a.1 b.1
theorem wearL_asc (S:Sp) (B:(Th→Int)→Pp→Bool) (l:List Ev):(wearL S B l).Pairwise weLt:=by
 unfold wearL
 rw [List.pairwise_map]
 exact (asc_allFrom 0 S.rs).sublist List.filter_sublist
theorem mem_wearL {S:Sp} {B:(Th→Int)→Pp→Bool} {l:List Ev} {x:We}:x∈wearL S B l ↔ x.1∈allFrom 0 S.rs∧0<wrN B l x.1∧x.2.1=wrN B l x.1∧x.2.2=wrT B l x.1:=by
 unfold wearL
 rw [List.mem_map]
 constructor
 ·rintro ⟨p,hp,rfl⟩
  have h:=List.mem_filter.1 hp
  exact ⟨h.1,of_decide_eq_true h.2,rfl,rfl⟩
 ·rintro ⟨h1,h2,h3,h4⟩
  obtain ⟨p,a,b⟩:=x
  simp only at h1 h2 h3 h4
  subst h3 h4
  exact ⟨p,List.mem_filter.2 ⟨h1,decide_eq_true h2⟩,rfl⟩
theorem weLt_irrefl (a:We):¬ weLt a a:=ppLt_irrefl _
theorem weLt_asymm {a b:We} (h:weLt a b):¬ weLt b a:=fun k=>ppLt_irrefl _ (ppLt_trans h k)
theorem wear_one {S:Sp} {B:(Th→Int)→Pp→Bool} {l:List Ev} {m:List We} (hs:m.Pairwise weLt) (hm:∀ x,x∈m ↔ x.1∈allFrom 0 S.rs∧0<wrN B l x.1∧x.2.1=wrN B l x.1∧x.2.2=wrT B l x.1):m=wearL S B l :=
 lt_same weLt_irrefl (fun _ _=>weLt_asymm) hs (wearL_asc S B l) fun x=>(hm x).trans mem_wearL.symm
theorem mom_last {B:(Th→Int)→Pp→Bool} {l:List Ev} (hl:l≠[]) (p:Pp):∃ ms b,momP B l p l.length=ms++[((l.getD (l.length-1) ev0).1,b)]:=by
 have h0:0<l.length:=List.length_pos_iff.2 hl
 obtain ⟨n,hn⟩:∃ n,l.length=n+1:=⟨l.length-1,by omega⟩
 unfold momP
 rw [hn,momI_succ,momB_last hn.symm,if_pos rfl,List.map_append]
 exact ⟨_,_,rfl⟩
theorem wear_sums {B:(Th→Int)→Pp→Bool} {l:List Ev} {out:List Cg} (ho:ChgOf B l out) (hl:l≠[]) (p:Pp):wcN (ofP p out)=wrN B l p∧wcT (l.getD (l.length-1) ev0).1 (ofP p out)=wrT B l p:=by
 rw [ho p]
 unfold chL wrN wrT
 obtain ⟨ms,b,e⟩:=mom_last (B:=B) hl p
 refine ⟨wcN_chP _ _ _,?_⟩
 rw [e]
 have h:=wcT_chP p (l.getD (l.length-1) ev0).1 false ms (l.getD (l.length-1) ev0).1 b (by simp)
 rw [← h]
 simp [nB]
theorem wear_in {B:(Th→Int)→Pp→Bool} {l:List Ev} {out:List Cg} (ho:ChgOf B l out) (p:Pp):(∃ x∈out,x.2.1=p) ↔ 0<wrN B l p:=by
 have h1:(∃ x∈out,x.2.1=p) ↔ ofP p out≠[]:=by
  unfold ofP
  constructor
  ·rintro ⟨x,hx,e⟩ h
   have:x∈out.filter fun x=>decide (x.2.1=p):=List.mem_filter.2 ⟨hx,by simpa using e⟩
   rw [h] at this
   cases this
  ·intro h
   obtain ⟨x,hx⟩:=List.exists_mem_of_ne_nil _ h
   have:=List.mem_filter.1 hx
   exact ⟨x,this.1,by simpa using this.2⟩
 rw [h1,ho p]
 unfold chL wrN
 have:=chP_nil p (momP B l p l.length)
 have h2:=(tmR_nonneg (was:=false) (ms:=momP B l p l.length)).1
 constructor
 ·intro h
  rcases Int.lt_or_le 0 (tmR false (momP B l p l.length)) with q | q
  ·exact q
  ·exact absurd (this.2 (by omega)) h
 ·intro h q
  have:=this.1 q
  omega
end Go.Proofs.YthhfmppealmblaaGreatDoor
namespace Go.Proofs.YthhfmppealmblaaGreatDoor
open Go.RowKit
def weC (x:We):List Value:=[.int .i64 x.1.1,.int .i64 x.1.2,.int .i64 x.2.1,.int .i64 x.2.2]
def weCs (l:List We):List Value:=(l.map weC).flatten
theorem we_info:(Tryz.prog.info? 64).map (fun i=>(i.zero,i.size,i.bytes))=some (some (.agg #[.int .i64 0,.int .i64 0,.int .i64 0,.int .i64 0]),4,32):=by kernel_rfl
theorem wes_step {W:World} {base:Nat} {t:TypeId} {v:Value} {l:List We} {n:Nat} {p:Pp} {a b:Int} (h:W.ownsRow base t 4 v n (weCs l++[.int .i64 p.1,.int .i64 p.2,.int .i64 a,.int .i64 b])) (hn:n=l.length+1):W.ownsRow base t 4 v (l++[(p,a,b)]).length (weCs (l++[(p,a,b)])):=by
  have e:weCs (l++[(p,a,b)])=weCs l++[.int .i64 p.1,.int .i64 p.2,.int .i64 a,.int .i64 b]:=by simp [weCs,weC]
  rw [e,List.length_append,List.length_singleton,← hn]
  exact h
def WrE (S:Sp) (B:(Th→Int)→Pp→Bool) (l:List Ev) (w:World) (e:Ending) (w':World):Prop:=∃ v,e = .returned (.tuple #[v,.int .i64 (audE S l)])∧w'.ownsRow w.heap.size 64 4 v (wearV S B l).length (weCs (wearV S B l))∧Below w.heap.size w w'
theorem wearV_ne (S:Sp) (B:(Th→Int)→Pp→Bool) {l:List Ev} (h:audE S l≠0):wearV S B l=[]:=if_neg h
theorem Blk.drew' {W:World} {b:Nat} {t:TypeId} {cs:Array Value} (h:Blk W b t cs):Blk W.drew b t cs:=h
end Go.Proofs.YthhfmppealmblaaGreatDoor
namespace Go.Proofs.YthhfmppealmblaaGreatDoor
open Go.RowKit Go.Shelf
set_option maxRecDepth 100000 in
set_option maxHeartbeats 3200000 in
theorem beforeW_any (a1 a2 a3 a4 b1 b2 b3 b4:Int) (W:World):Calls Tryz.prog 58 #[.agg #[.int .i64 a1,.int .i64 a2,.int .i64 a3,.int .i64 a4],.agg #[.int .i64 b1,.int .i64 b2,.int .i64 b3,.int .i64 b4]] W fun e w'=>e = .returned (.int .i64 (cfI a1 a2 b1 b2))∧Grw W w':=by
  have m1:=((Blk.new W 64 #[.int .i64 a1,.int .i64 a2,.int .i64 a3,.int .i64 a4]).alloc (.cells #[.int .i64 b1,.int .i64 b2,.int .i64 b3,.int .i64 b4] 64))
  have m2:=Blk.new (W.alloc (.cells #[.int .i64 a1,.int .i64 a2,.int .i64 a3,.int .i64 a4] 64)) 64 #[.int .i64 b1,.int .i64 b2,.int .i64 b3,.int .i64 b4]
  rw [World.size_alloc] at m2
  have M1:=Lib.hid m1
  have M2:=Lib.hid m2
  have HG:=Lib.hid (((Grw.refl W).alloc (.cells #[.int .i64 a1,.int .i64 a2,.int .i64 a3,.int .i64 a4] 64)).alloc (.cells #[.int .i64 b1,.int .i64 b2,.int .i64 b3,.int .i64 b4] 64))
  clear m1 m2
  go_enter Tryz.func58,Tryz.ntmps58
  go_wp2_with fail
  obtain ⟨W2,hW2⟩:∃ W2,(W.alloc (.cells #[.int .i64 a1,.int .i64 a2,.int .i64 a3,.int .i64 a4] 64)).alloc (.cells #[.int .i64 b1,.int .i64 b2,.int .i64 b3,.int .i64 b4] 64)=W2:=⟨_,rfl⟩
  rw [hW2] at M1 M2 HG ⊢
  have x0:W2.cell? ⟨W.heap.size,0,none⟩=some (.int .i64 a1):=M1.out.cell 0
  have z0:W2.cell? ⟨W.heap.size+1,0,none⟩=some (.int .i64 b1):=M2.out.cell 0
  have x1:W2.cell? ⟨W.heap.size,1,none⟩=some (.int .i64 a2):=M1.out.cell 1
  have z1:W2.cell? ⟨W.heap.size+1,1,none⟩=some (.int .i64 b2):=M2.out.cell 1
  clear hW2 M1 M2
  first
    | (refine (pipes_any a1 a2 b1 b2 _).mono ?_
       rintro e w5 ⟨rfl,hg5⟩
       have HG5:=Lib.hid (HG.out.trans hg5)
       clear hg5 x0 x1 z0 z1
       go_wp2
       go_ret
       exact ⟨rfl,HG5.out⟩)
    | (go_wp2_with fail
       refine (pipes_any a1 a2 b1 b2 _).mono ?_
       rintro e w5 ⟨rfl,hg5⟩
       have HG5:=Lib.hid (HG.out.trans hg5)
       clear hg5 x0 x1 z0 z1
       go_wp2
       go_ret
       exact ⟨rfl,HG5.out⟩)
    | fail
instance (a b:We):Decidable (weLt a b):=by unfold weLt ppLt;infer_instance
def cfWP (a b:We):Int:=cfI a.1.1 a.1.2 b.1.1 b.1.2
theorem weLt_trans {a b c:We} (h:weLt a b) (k:weLt b c):weLt a c:=ppLt_trans h k
theorem weLt_ntrans {a b c:We} (h:¬ weLt a b) (k:¬ weLt b c):¬ weLt a c:=by
  obtain ⟨⟨a1,a2⟩,a3⟩:=a
  obtain ⟨⟨b1,b2⟩,b3⟩:=b
  obtain ⟨⟨c1,c2⟩,c3⟩:=c
  unfold weLt ppLt at *
  simp only at *
  omega
theorem ltW (x y:We):ltOf cfWP x y=decide (weLt x y):=by
  rw [Bool.eq_iff_iff,decide_eq_true_iff]
  unfold ltOf
  rw [decide_eq_true_iff]
  unfold cfWP weLt
  exact cfI_lt _ _ _ _
theorem swoW:Sort.SWO (ltOf cfWP) where
  irrefl x:=by rw [ltW];simpa using weLt_irrefl x
  trans x y z h1 h2:=by rw [ltW] at *;simp only [decide_eq_true_eq] at *;exact weLt_trans h1 h2
  ntrans x y z h1 h2:=by
    rw [ltW] at *
    simp only [decide_eq_false_iff_not] at *
    exact weLt_ntrans h1 h2
set_option maxHeartbeats 1000000 in
theorem sortW_any (l:List We) (hn:l.length≤1000000000) (base:Nat) (v:Value) (w:World) (h:w.ownsRow base 64 4 v l.length (l.map weC).flatten) :
    Calls Tryz.prog 57 #[v,.func (.func 58) #[] #[]] w fun e w'=>e = .returned (.tuple #[])∧∃ m:List We,m.Perm l∧(m.Pairwise fun a b=>¬ weLt b a)∧w'.ownsRow base 64 4 v m.length (m.map weC).flatten∧w.grownBy w' v.ownBlock:=by
  rcases h.2 with ⟨hv,h0⟩ | ⟨g,cap,cur,hv,hbg,hg,hrest⟩
  · have hl0:l=[]:=List.length_eq_zero_iff.1 h0
    subst hl0
    have hcon:=AnyF.slices_SortFunc_none Tryz.sortWear none 0 (.func (.func 58) #[] #[]) w
    rw [← hv] at hcon
    change Calls Tryz.prog 57 _ _ _ at hcon
    refine hcon.mono ?_
    rintro e w' ⟨rfl,rfl⟩
    exact ⟨rfl,[],List.Perm.refl _,List.Pairwise.nil,h,World.grownBy.refl _ _⟩
  · obtain ⟨d,hd⟩:∃ d:Array We,d.toList=l:=⟨l.toArray,rfl⟩
    have hsz:d.size=l.length:=by rw [← hd,Array.length_toList]
    have eg:∀ args w,(callFunc 58 args).run Tryz.prog w = .ok (.enter 58 args) w:=enters_of Tryz.func58 (by kernel_rfl) rfl
    have h':=h
    rw [hv,← hd] at h'
    rw [Array.length_toList] at h'
    have hH:=holdsK_row (enc:=weC) (k:=4) (fun _=>rfl) h'
    have hcon:=AnyQ.slices_SortFunc Tryz.sortWear 4 Tryz.isAgg64 Tryz.sizeOf64 weC (fun _=>rfl) (fun x v hv=>by simp [weC] at hv;rcases hv with rfl | rfl | rfl | rfl <;> rfl) cfWP swoW 58 #[] g 0 cap d w eg (fun _ _ _ _ x y=>beforeW_any x.1.1 x.1.2 x.2.1 x.2.2 y.1.1 y.1.2 y.2.1 y.2.2 _) hH.1 hH.2 (by omega)
    rw [hsz,← hv] at hcon
    change Calls Tryz.prog 57 _ _ _ at hcon
    refine hcon.mono ?_
    rintro e w' ⟨rfl,d',n,os,hp,hs,rfl⟩
    obtain ⟨hsz2,_,hperm⟩:=hp
    rw [← hsz] at hperm hs
    have e1:d'.extract 0 d.size=d':=by rw [← hsz2];exact Array.extract_size
    rw [e1,Array.extract_size] at hperm
    refine ⟨rfl,d'.toList,?_,?_,?_,?_⟩
    · rw [← hd];exact hperm
    · rw [List.pairwise_iff_getElem]
      intro i j hi hj hij
      have hj':j<d'.size:=by simpa using hj
      have hi':i<d'.size:=by simpa using hi
      have:=hs i j (Nat.zero_le _) hij (by omega)
      rw [ltW,getElem!_pos d' i hi',getElem!_pos d' j hj'] at this
      simpa using this
    · have:=sorted_row (enc:=weC) (n:=n) (os:=os) (fun _=>rfl) hsz2 h'
      rw [hv,← hsz]
      simpa [Array.length_toList] using this
    · rw [hv];exact sorted_grown
end Go.Proofs.YthhfmppealmblaaGreatDoor
