/-
  A part of the proof: FA, CL, AM1, AI2, AI3, AI4.
-/
import Derived.Test.YthhfmppealmblaaGreatDoorK14
import Derived.Lib.AppendZeros
import Derived.Deep.CutRange
import Derived.Test.YthhfmppealmblaaGreatDoorK07
import Derived.Test.YthhfmppealmblaaGreatDoorK06
import Derived.Test.YthhfmppealmblaaGreatDoorK09
namespace Go.Proofs.YthhfmppealmblaaGreatDoor
open Go.RowKit
def cg0:Cg:=(0,(0,0),0,0)
theorem ARd.of_cgs {W:World} {base:Nat} {t:TypeId} {v:Value} {l:List Cg} (h:W.ownsRow base t 5 v l.length (cgCs l)):ARd W v 5 (l.map cgC) :=
 ARd.of_row (by intro r hr;obtain ⟨p,_,rfl⟩:=List.mem_map.1 hr;rfl) (by rw [List.length_map];exact h)
theorem ARd.cgAt {w:World} {v:Value} {l:List Cg} (h:ARd w v 5 (l.map cgC)) (i:Nat) (hi:i<l.length):∃ b o c,v = .slice (some ⟨b,o,none⟩) l.length c∧b<w.heap.size∧w.cell? ⟨b,o+i * 5,none⟩=some (.int .i64 l[i].1)∧w.cell? ⟨b,o+i * 5+1,none⟩=some (.int .i64 l[i].2.1.1)∧w.cell? ⟨b,o+i * 5+2,none⟩=some (.int .i64 l[i].2.1.2)∧w.cell? ⟨b,o+i * 5+3,none⟩=some (.int .i64 l[i].2.2.1)∧w.cell? ⟨b,o+i * 5+4,none⟩=some (.int .i64 l[i].2.2.2):=by
 obtain ⟨b,o,c,e,hlt,hc⟩:=h.at i (by simpa using hi)
 rw [List.getElem_map] at hc
 rw [List.length_map] at e
 exact ⟨b,o,c,e,hlt,hc 0 _ rfl,hc 1 _ rfl,hc 2 _ rfl,hc 3 _ rfl,hc 4 _ rfl⟩
def pvF (L:List Cg) (i:Nat):Option Pp:=if i=0 then none else some (L.getD (i-1) cg0).2.1
structure FgI (L:List Cg) (T:List Fa) (i:Nat) (s c k:Int) (out:List Fa):Prop where
 all:goF (pvF L i) s c k out (L.drop i)=T
 ne:k≠0→out≠[]
 s1 : -(i:Int)≤s∧s≤i
 c1 : -(i:Int)≤c∧c≤i
 kr:k=0∨k=1∨k=2
 len:out.length≤i
structure FgJ (L:List Cg) (T:List Fa) (i:Nat) (x:Cg) (s c k:Int) (out:List Fa):Prop where
 all:(if headSame x.2.1 x.1 (L.drop (i+1))=true then goF (some x.2.1) s c k out (L.drop (i+1)) else goF (some x.2.1) s c (kindP s c) (putF out k (kindP s c) x.2.1 x.1) (L.drop (i+1)))=T
 pv:pvF L (i+1)=some x.2.1
 ne:k≠0→out≠[]
 s1 : -((i+1:Nat):Int)≤s∧s≤((i+1:Nat):Int)
 c1 : -((i+1:Nat):Int)≤c∧c≤((i+1:Nat):Int)
 kr:k=0∨k=1∨k=2
 len:out.length≤i
structure FgM (W1:World) (u:Value) (O:List Fa) (P:Nat) (tk p1 p2 d1 d2:Int) (W:World):Prop where
 row:W.ownsRow W1.heap.size 52 5 u O.length (faCs O)
 be:Below W1.heap.size W1 W
 blk:Blk W P 91 #[.int .i64 tk,.int .i64 p1,.int .i64 p2,.int .i64 d1,.int .i64 d2]
theorem FgM.drewN {W1 W:World} {u:Value} {O:List Fa} {P:Nat} {tk p1 p2 d1 d2:Int} (h:FgM W1 u O P tk p1 p2 d1 d2 W) (n:Nat):FgM W1 u O P tk p1 p2 d1 d2 (W.drewN n) :=
 ⟨row_later h.row (below_drewN (Below.refl _ _) n),below_drewN h.be n,h.blk.drewN n⟩
theorem FgI.start (L:List Cg):FgI L (goF none 0 0 0 [] L) 0 0 0 0 []:=⟨by rw [List.drop_zero];rfl,fun h=>absurd rfl h,by omega,by omega,.inl rfl,Nat.le_refl _⟩
theorem FgI.take {L:List Cg} {T:List Fa} {i:Nat} {s c k:Int} {out:List Fa} (h:FgI L T i s c k out) (hi:i<L.length) {x:Cg} (hx:L[i]=x) (h1 : -1≤x.2.2.1∧x.2.2.1≤1) (h2 : -1≤x.2.2.2∧x.2.2.2≤1) {b:Bool} (hb:decide (pvF L i=some x.2.1)=b) :
  FgJ L T i x ((if b=true then s else 0)+x.2.2.1) ((if b=true then c else 0)+x.2.2.2) (if b=true then k else 0) out:=by
 have ha:=h.all
 rw [List.drop_eq_getElem_cons hi,hx,goF] at ha
 have e:∀ {α:Type} (p q:α),(if pvF L i=some x.2.1 then p else q)=if b=true then p else q:=by
  intro α p q
  cases b with
  | true=>rw [if_pos (of_decide_eq_true hb),if_pos rfl]
  | false=>rw [if_neg (of_decide_eq_false hb),if_neg (by decide)]
 simp only [e] at ha
 have hs:=h.s1
 have hc:=h.c1
 refine ⟨ha,?_,?_,?_,?_,?_,h.len⟩
 ·unfold pvF
  rw [if_neg (by omega),Nat.add_sub_cancel,getD_at hi,hx]
 ·cases b with
  | true=>rw [if_pos rfl];exact h.ne
  | false=>rw [if_neg (by decide)];exact fun q=>absurd rfl q
 ·split <;> omega
 ·split <;> omega
 ·cases b with
  | true=>rw [if_pos rfl];exact h.kr
  | false=>rw [if_neg (by decide)];exact .inl rfl
theorem FgJ.wait {L:List Cg} {T:List Fa} {i:Nat} {x:Cg} {s c k:Int} {out:List Fa} (h:FgJ L T i x s c k out) (hd:headSame x.2.1 x.1 (L.drop (i+1))=true):FgI L T (i+1) s c k out:=by
 have ha:=h.all
 rw [if_pos hd] at ha
 exact ⟨by rw [h.pv];exact ha,h.ne,h.s1,h.c1,h.kr,Nat.le_succ_of_le h.len⟩
theorem FgJ.done {L:List Cg} {T:List Fa} {i:Nat} {x:Cg} {s c k:Int} {out:List Fa} (h:FgJ L T i x s c k out) (hd:headSame x.2.1 x.1 (L.drop (i+1))=false) {now:Int} (hk:kindP s c=now):FgI L T (i+1) s c now (putF out k now x.2.1 x.1):=by
 have ha:=h.all
 rw [if_neg (by rw [hd];decide),hk] at ha
 refine ⟨by rw [h.pv];exact ha,fun hn=>?_,h.s1,h.c1,?_,?_⟩
 ·unfold putF
  split
  ·rename_i e
   exact h.ne (by rw [← e];exact hn)
  ·simp
 ·rw [← hk]
  unfold kindP
  split
  ·exact .inr (.inl rfl)
  ·split
   ·exact .inr (.inr rfl)
   ·exact .inl rfl
 ·have hl:=h.len
  unfold putF
  split
  ·omega
  ·rw [List.length_append]
   have h1:(if k≠0 then setTo out x.1 else out).length=out.length:=by split;exact setTo_len _ _;rfl
   have h2:(if now≠0 then [(now,x.2.1,x.1,(-1:Int))] else []).length≤1:=by split <;> simp
   omega
theorem headSame_at {L:List Cg} {i:Nat} {p:Pp} {t:Int} (hi:i<L.length):headSame p t (L.drop i)=(decide (L[i].2.1=p) && decide (L[i].1=t)):=by rw [List.drop_eq_getElem_cons hi];rfl
theorem headSame_end {L:List Cg} {i:Nat} {p:Pp} {t:Int} (hi:L.length≤i):headSame p t (L.drop i)=false:=by rw [List.drop_eq_nil_of_le hi];rfl
theorem putF_same (O:List Fa) (k:Int) (p:Pp) (t:Int):putF O k k p t=O:=by unfold putF;rw [if_pos rfl]
theorem putF_new {O:List Fa} {now:Int} {p:Pp} {t:Int} (h:now≠0):putF O 0 now p t=O++[(now,p,t,-1)]:=by unfold putF;rw [if_neg h,if_neg (fun q=>q rfl),if_pos h]
theorem putF_end {O:List Fa} {k:Int} {p:Pp} {t:Int} (h:k≠0):putF O k 0 p t=setTo O t:=by unfold putF;rw [if_neg (fun q=>h q.symm),if_pos h,if_neg (fun q=>q rfl),List.append_nil]
theorem putF_turn {O:List Fa} {k now:Int} {p:Pp} {t:Int} (h:k≠0) (hn:now≠0) (hk:now≠k):putF O k now p t=setTo O t++[(now,p,t,-1)]:=by unfold putF;rw [if_neg hk,if_pos h,if_pos hn]
theorem fob_ne {W0 W:World} {g cap P:Nat} {m:List Fa} {t:TypeId} {cs:Array Value} (h:FoB W0 g cap m W) (hb:Blk W P t cs) (hne:t≠52):P≠g:=fun e=>by
 obtain ⟨⟨cur,hc,_⟩,_⟩:=h.row
 subst e
 unfold Blk at hb hc
 rw [hb] at hc
 cases hc
 exact hne rfl
def FauE (l:List Cg) (base:Nat) (w:World) (e:Ending) (w':World):Prop:=∃ srt u m c,srt.Perm l∧srt.Pairwise cgLe∧e = .returned (.tuple #[u,.int .i64 c])∧w'.ownsRow base 52 5 u m.length (faCs m)∧FaP (goF none 0 0 0 [] srt) m c∧Below base w w'
set_option maxRecDepth 100000 in
set_option maxHeartbeats 12800000 in
theorem afaults_any (l:List Cg) (hn:l.length≤1000000000) (hsm:∀ x∈l,(-1≤x.2.2.1∧x.2.2.1≤1)∧(-1≤x.2.2.2∧x.2.2.2≤1)) (base:Nat) (v:Value) (w:World) (hb:base≤w.heap.size) (h:w.ownsRow base 91 5 v l.length (cgCs l)) :
  Calls Tryz.prog 44 #[v] w (FauE l base w):=by
 obtain ⟨i0,hi0,hz0,hz1,hz2⟩:=info_parts fa_info
 have HSO:=Lib.hid (sortC_any l hn base v w h)
 have HGE:=Lib.hid (fun j (e:v.ownBlock=some j)=>row_ge h e)
 obtain ⟨va,vc,ev⟩:=(ARd.of_cgs h).form
 rw [List.length_map] at ev
 obtain ⟨n,hnl⟩:∃ n,l.length=n:=⟨_,rfl⟩
 rw [hnl] at hn ev
 subst ev
 have HSM:=Lib.hid hsm
 have HNL:=Lib.hid hnl
 clear h hsm hnl
 go_enter Tryz.func44,Tryz.ntmps44
 go_wp2_with fail
 refine (HSO.out).mono ?_
 rintro e W1 ⟨rfl,L,hp,hs,hrow,hg⟩
 have hll:L.length=n:=hp.length_eq.trans HNL.out
 have HP:=Lib.hid hp
 have HCL:=Lib.hid (cgLe_of hs)
 have HRD:=Lib.hid (ARd.of_cgs hrow)
 have HB1:=Lib.hid (show Below base w W1 from (Below.refl base w).grown hg hb (fun j e=>HGE.out j e))
 have HS2:=Lib.hid (fun i (hi:i<L.length)=>HSM.out _ (hp.mem_iff.1 (List.getElem_mem hi)))
 obtain ⟨T,hT⟩:∃ T,goF none 0 0 0 [] L=T:=⟨_,rfl⟩
 have HT:=Lib.hid hT
 have HI0:=Lib.hid (hT ▸ FgI.start L)
 have HR0:=Lib.hid (show W1.ownsRow W1.heap.size 52 5 (.slice none 0 0) ([]:List Fa).length (faCs []) from World.ownsRow_nil _ _ _ _)
 have HB0:=Lib.hid (Below.refl W1.heap.size W1)
 subst hll
 clear hp hs hrow hg HSO HGE hT HSM
 go_wp2
 go_loopw [4,5,6,7,15] (fun u s c k x wr=>∃ (i:Nat) (s' c' k':Int) (O:List Fa),i≤L.length∧x = .int .i64 i∧s = .int .i64 s'∧c = .int .i64 c'∧k = .int .i64 k'∧RowKit.Hid (FgI L T i s' c' k' O)∧RowKit.Hid (wr.ownsRow W1.heap.size 52 5 u O.length (faCs O))∧RowKit.Hid (Below W1.heap.size W1 wr)) (fun _ _ _ _ x _=>L.length-(intOf x).toNat)
 case atStart=>exact ⟨0,0,0,0,[],Nat.zero_le _,rfl,rfl,rfl,rfl,HI0,HR0,HB0⟩
 clear HI0 HR0 HB0
 obtain ⟨i,s,c,k,O,hi,rfl,rfl,rfl,rfl,hI,hrow,hB⟩:=hrel
 by_cases hil:i<L.length
 ·have hi2:(i:Int)<(L.length:Int):=by omega
  have hsm:=HS2.out i hil
  obtain ⟨b,o,c',ev,hbl,q0,q1,q2,q3,q4⟩:=(HRD.out.later hB.out).cgAt i hil
  cases ev
  obtain ⟨same,hsame⟩:∃ bb,decide (pvF L i=some L[i].2.1)=bb:=⟨_,rfl⟩
  have HJ:=Lib.hid (hI.out.take hil rfl hsm.1 hsm.2 hsame)
  have HSA:=Lib.hid hsame
  obtain ⟨hd,hhd⟩:∃ bb,headSame L[i].2.1 L[i].1 (L.drop (i+1))=bb:=⟨_,rfl⟩
  have HHD:=Lib.hid hhd
  have HIS:=Lib.hid (And.intro hI.out.s1 hI.out.c1)
  obtain ⟨x,hx⟩:∃ x,L[i]=x:=⟨_,rfl⟩
  rw [hx] at q0 q1 q2 q3 q4 HJ HSA HHD hsm
  obtain ⟨tk,⟨p1,p2⟩,d1,d2⟩:=x
  dsimp only at q0 q1 q2 q3 q4 HJ HSA HHD hsm
  clear hx hsame hhd hI
  go_upto_region 7 with fail
  have HX:=Lib.hid (Blk.new wr 91 #[.int .i64 tk,.int .i64 p1,.int .i64 p2,.int .i64 d1,.int .i64 d2])
  have hal:Below wr.heap.size wr (wr.alloc (.cells #[.int .i64 tk,.int .i64 p1,.int .i64 p2,.int .i64 d1,.int .i64 d2] 91)):=(Below.refl _ wr).alloc (Nat.le_refl _) _
  have HRW:=Lib.hid (row_later hrow.out hal)
  have HBB:=Lib.hid (below_step hB.out hal)
  have HLT:=Lib.hid hbl
  obtain ⟨P,hP⟩:∃ P,wr.heap.size=P:=⟨_,rfl⟩
  rw [hP] at HX ⊢
  generalize wr.alloc (.cells #[.int .i64 tk,.int .i64 p1,.int .i64 p2,.int .i64 d1,.int .i64 d2] 91)=W2 at *
  clear q0 q1 q2 q3 q4 hP hal hrow hB hbl
  have HM:=Lib.hid (show FgM W1 u4 O P tk p1 p2 d1 d2 W2 from ⟨HRW.out,HBB.out,HX.out⟩)
  have x1:W2.cell? ⟨P,1,none⟩=some (.int .i64 p1):=HX.out.cell 1
  have x2:W2.cell? ⟨P,2,none⟩=some (.int .i64 p2):=HX.out.cell 2
  clear HRW HBB HX HLT
  go_cut [32] from 20 to 32 (fun x32 wx=>x32 = .bool (!same)∧RowKit.Hid (FgM W1 u4 O P tk p1 p2 d1 d2 wx))
  case first =>
   by_cases i0':i=0
   ·have e1:((i:Int)==0)=true:=by rw [beq_iff_eq];omega
    have HE:RowKit.Hid (same=false):=Lib.hid (by rw [← HSA.out,i0'];exact decide_eq_false (fun q=>by cases q))
    clear i0'
    go_quiet (fail)
    go_wp2
    go_meet
    exact ⟨by rw [HE.out];rfl,Lib.hid (HM.out.drewN nq)⟩
   ·have e1:((i:Int)==0)=false:=by rw [beq_eq_false_iff_ne];omega
    have e2:IntKind.i64.wrap ((i:Int)-1)=((i-1:Nat):Int):=by rw [IntWalk.i64_in _ (by omega)];omega
    have e3:((i-1:Nat):Int)<(L.length:Int):=by omega
    have hi1:i-1<L.length:=by omega
    obtain ⟨b',o',c'',ev,hbl,y0,y1,y2,y3,y4⟩:=(HRD.out.later HM.out.be).cgAt (i-1) hi1
    cases ev
    have hsa:=HSA.out
    unfold pvF at hsa
    rw [if_neg i0',getD_at hi1] at hsa
    obtain ⟨⟨a1,a2⟩,ha⟩:∃ q,L[i-1].2.1=q:=⟨_,rfl⟩
    rw [ha] at y1 y2 hsa
    dsimp only at y1 y2
    clear y0 y3 y4 ha i0' hi1 hbl
    by_cases hpp:(a1,a2)=(p1,p2)
    ·have HE:RowKit.Hid (same=true):=Lib.hid (by rw [← hsa,hpp];exact decide_eq_true rfl)
     have h1:a1=p1:=(Prod.mk.inj hpp).1
     have h2:a2=p2:=(Prod.mk.inj hpp).2
     subst h1 h2
     have hne:=fun W=>nePp (p:=(a1,a2)) (q:=(a1,a2)) (decide_eq_true rfl) W
     dsimp only at hne
     clear hsa hpp
     go_quiet (fail)
     go_wp2
     go_meet
     exact ⟨by rw [HE.out];rfl,Lib.hid (HM.out.drewN nq)⟩
    ·have HE:RowKit.Hid (same=false):=Lib.hid (by rw [← hsa];exact decide_eq_false (fun q=>hpp (Option.some.inj q)))
     have hne:=fun W=>nePp (p:=(a1,a2)) (q:=(p1,p2)) (decide_eq_false hpp) W
     dsimp only at hne
     clear hsa hpp
     go_quiet (fail)
     go_wp2
     go_meet
     exact ⟨by rw [HE.out];rfl,Lib.hid (HM.out.drewN nq)⟩
  case rest =>
  obtain ⟨rfl,hM⟩:=hcut
  rename World=>W3
  clear HM x1 x2 HSA
  go_upto_if 32 with fail
  go_cut [5,6,7] from 20 to 32 (fun x5 x6 x7 wx=>x5 = .int .i64 (if same=true then s else 0)∧x6 = .int .i64 (if same=true then c else 0)∧x7 = .int .i64 (if same=true then k else 0)∧wx=W3)
  case first =>
   cases same with
   | true =>
    go_wp2
    go_meet
    exact ⟨rfl,rfl,rfl,rfl⟩
   | false =>
    go_wp2
    go_meet
    exact ⟨rfl,rfl,rfl,rfl⟩
  case rest =>
  obtain ⟨rfl,rfl,rfl,hwc⟩:=hcut
  rw [hwc]
  clear hwc
  obtain ⟨s0,hs0⟩:∃ z,(if same=true then s else 0)=z:=⟨_,rfl⟩
  obtain ⟨c0,hc0⟩:∃ z,(if same=true then c else 0)=z:=⟨_,rfl⟩
  obtain ⟨k0,hk0⟩:∃ z,(if same=true then k else 0)=z:=⟨_,rfl⟩
  rw [hs0,hc0,hk0] at HJ ⊢
  clear hs0 hc0 hk0 HIS hsm
  obtain ⟨sj1,sj2⟩:=HJ.out.s1
  obtain ⟨cj1,cj2⟩:=HJ.out.c1
  obtain ⟨s1,hs1⟩:∃ z,s0+d1=z:=⟨_,rfl⟩
  obtain ⟨c1,hc1⟩:∃ z,c0+d2=z:=⟨_,rfl⟩
  rw [hs1] at HJ sj1 sj2
  rw [hc1] at HJ cj1 cj2
  have e1:IntKind.i64.wrap (s0+d1)=s1:=by rw [IntWalk.i64_in _ (by omega)];exact hs1
  have e2:IntKind.i64.wrap (c0+d2)=c1:=by rw [IntWalk.i64_in _ (by omega)];exact hc1
  have m3:W3.cell? ⟨P,3,none⟩=some (.int .i64 d1):=hM.out.blk.cell 3
  have m4:W3.cell? ⟨P,4,none⟩=some (.int .i64 d2):=hM.out.blk.cell 4
  clear hs1 hc1
  go_upto_region 9 with fail
  go_quiet (fail)
  have HM4:=Lib.hid (hM.out.drewN nq)
  generalize W3.drewN nq=W4 at *
  go_upto_region 10 with fail
  have x0:W4.cell? ⟨P,0,none⟩=some (.int .i64 tk):=HM4.out.blk.cell 0
  have x1:W4.cell? ⟨P,1,none⟩=some (.int .i64 p1):=HM4.out.blk.cell 1
  have x2:W4.cell? ⟨P,2,none⟩=some (.int .i64 p2):=HM4.out.blk.cell 2
  clear m3 m4 e1 e2 hM
  go_cut [67] from 33 to 67 (fun x67 wx=>x67 = .bool hd∧RowKit.Hid (FgM W1 u4 O P tk p1 p2 d1 d2 wx))
  case first =>
   have e1:IntKind.i64.wrap ((i:Int)+1)=(i:Int)+1:=IntWalk.i64_in _ (by omega)
   have e4:(0:Int)≤(i:Int)+1:=by omega
   have e5:((i:Int)+1).toNat=i+1:=by omega
   by_cases hl2:i+1<L.length
   ·have e2:(i:Int)+1<(L.length:Int):=by omega
    obtain ⟨b',o',c'',ev,hbl,y0,y1,y2,y3,y4⟩:=(HRD.out.later HM4.out.be).cgAt (i+1) hl2
    cases ev
    have hhd:=HHD.out
    rw [headSame_at hl2] at hhd
    obtain ⟨⟨a1,a2⟩,ha⟩:∃ q,L[i+1].2.1=q:=⟨_,rfl⟩
    obtain ⟨t2,ht2⟩:∃ q,L[i+1].1=q:=⟨_,rfl⟩
    rw [ha] at y1 y2 hhd
    rw [ht2] at y0 hhd
    dsimp only at y1 y2
    clear y3 y4 ha ht2 hbl
    by_cases hpp:(a1,a2)=(p1,p2)
    ·have h1:a1=p1:=(Prod.mk.inj hpp).1
     have h2:a2=p2:=(Prod.mk.inj hpp).2
     subst h1 h2
     have hne:=fun W=>eqPp (p:=(a1,a2)) (q:=(a1,a2)) (decide_eq_true rfl) W
     dsimp only at hne
     by_cases htk:t2=tk
     ·have HE:RowKit.Hid (hd=true):=Lib.hid (by rw [← hhd,htk];simp)
      have e3:(t2==tk)=true:=by rw [beq_iff_eq];exact htk
      clear hhd hpp htk
      go_quiet (fail)
      go_wp2
      go_meet
      exact ⟨by rw [HE.out],Lib.hid (HM4.out.drewN nq)⟩
     ·have HE:RowKit.Hid (hd=false):=Lib.hid (by rw [← hhd,decide_eq_false htk,Bool.and_false])
      have e3:(t2==tk)=false:=by rw [beq_eq_false_iff_ne];exact htk
      clear hhd hpp htk
      go_quiet (fail)
      go_wp2
      go_meet
      exact ⟨by rw [HE.out],Lib.hid (HM4.out.drewN nq)⟩
    ·have HE:RowKit.Hid (hd=false):=Lib.hid (by rw [← hhd,decide_eq_false hpp,Bool.false_and])
     have hne:=fun W=>eqPp (p:=(a1,a2)) (q:=(p1,p2)) (decide_eq_false hpp) W
     dsimp only at hne
     clear hhd hpp
     go_quiet (fail)
     go_wp2
     go_meet
     exact ⟨by rw [HE.out],Lib.hid (HM4.out.drewN nq)⟩
   ·have e2:¬ (i:Int)+1<(L.length:Int):=by omega
    have HE:RowKit.Hid (hd=false):=Lib.hid (by rw [← HHD.out];exact headSame_end (by omega))
    go_quiet (fail)
    go_wp2
    go_meet
    exact ⟨by rw [HE.out],Lib.hid (HM4.out.drewN nq)⟩
  case rest =>
  obtain ⟨rfl,hM⟩:=hcut
  rename World=>W5
  clear HM4 x0 x1 x2
  have HOL:=Lib.hid HJ.out.len
  cases hd with
  | true =>
   have HN:=Lib.hid (HJ.out.wait HHD.out)
   go_wp2
   go_roundw
   case rel=>exact ⟨i+1,s1,c1,k0,O,by omega,by go_num,rfl,rfl,rfl,HN,Lib.hid hM.out.row,Lib.hid hM.out.be⟩
   case measure=>simp [intOf];omega
  | false =>
   have m0:W5.cell? ⟨P,0,none⟩=some (.int .i64 tk):=hM.out.blk.cell 0
   have m1:W5.cell? ⟨P,1,none⟩=some (.int .i64 p1):=hM.out.blk.cell 1
   have m2:W5.cell? ⟨P,2,none⟩=some (.int .i64 p2):=hM.out.blk.cell 2
   have hol:=HOL.out
   have hsz:=hM.out.be.size
   by_cases hs:0<s1
   ·by_cases hc:c1=0
    ·have hknow:kindP s1 c1=1:=by unfold kindP;rw [if_pos ⟨hs,hc⟩]
     have t2:(c1==0)=true:=by rw [beq_iff_eq];exact hc
     clear hc
     rcases HJ.out.kr with hk | hk | hk
     ·subst hk
      have HN:=Lib.hid (HJ.out.done HHD.out (now:=1) hknow)
      rw [putF_new (by decide)] at HN
      have HO:=Lib.hid hM.out.row
      have HB:=Lib.hid hM.out.be
      go_wp2_with (at_builtin;refine wpList_append_lies _ rfl _ _ 32 rfl W1.heap.size 52 i0 _ 5 40 Tryz.underlying32 hi0 hz0 hz1 hz2 rfl (by omega) _ _ _ rfl (HO.out.alloc _) ⟨W5.heap.size,0,none⟩ 1 1 [.int .i64 1,.int .i64 p1,.int .i64 p2,.int .i64 tk,.int .i64 (-1)] rfl rfl (World.news_of_block (cs:=#[.int .i64 1,.int .i64 p1,.int .i64 p2,.int .i64 tk,.int .i64 (-1)]) (t:=52) (fr:=(0,0)) (heap_alloc_new W5 _)) (by simp [Value.oneCell']) (by omega) (by unfold maxLen;omega) (by omega) (by simp;omega) (W5.heap.size+1) (by simp) ?_;intro gg cap3 w3 hown3 hgrow hat3 hlt3;have HP3:=Lib.hid hown3;have HB3:=Lib.hid (push_low HB.out HO.out hgrow);clear hown3 hgrow hat3 hlt3)
      have HP4:=Lib.hid (fas_step (l:=O) (k:=1) (p:=(p1,p2)) (a:=tk) (b:=-1) HP3.out rfl)
      go_wp2
      go_roundw
      case rel=>exact ⟨i+1,s1,c1,1,_,by omega,by go_num,rfl,rfl,rfl,HN,by have:=HP4.out;simpa only [List.length_append] using Lib.hid this,HB3⟩
      case measure=>simp [intOf];omega
     ·subst hk
      have HN:=Lib.hid (HJ.out.done HHD.out (now:=1) hknow)
      rw [putF_same] at HN
      have e9:((1:Int)==1)=true:=by decide
      clear m0 m1 m2
      go_wp2
      go_roundw
      case rel=>exact ⟨i+1,s1,c1,1,O,by omega,by go_num,rfl,rfl,rfl,HN,Lib.hid hM.out.row,Lib.hid hM.out.be⟩
      case measure=>simp [intOf];omega
     ·subst hk
      have HN:=Lib.hid (HJ.out.done HHD.out (now:=1) hknow)
      have hne:O≠[]:=HJ.out.ne (by decide)
      obtain ⟨g,cap,ev,hcm,hFo⟩:=FoB.of hM.out.row hM.out.be hne
      have HBK:=Lib.hid hM.out.blk
      have HGP:=Lib.hid (fob_ne hFo HBK.out (by decide))
      subst ev
      have hpos:=List.length_pos_iff.2 hne
      have hk9:O.length-1<O.length:=by omega
      obtain ⟨⟨_,_,_,_,c4⟩,⟨_,_,_,_,f4⟩⟩:=hFo.at hk9
      have HF5:=Lib.hid (hFo.setTo hne tk)
      have HO:=Lib.hid (show (W5.setCell ⟨g,(O.length-1) * 5+4,none⟩ (.int .i64 tk)).ownsRow W1.heap.size 52 5 (.slice (some ⟨g,0,none⟩) O.length cap) (setTo O tk).length (faCs (setTo O tk)) by have h9:=HF5.out.owns hcm;rw [setTo_len] at h9 ⊢;exact h9)
      have HB:=Lib.hid HF5.out.b
      have e5:IntKind.i64.wrap ((O.length:Int)-1)=((O.length-1:Nat):Int):=by rw [IntWalk.i64_in _ (by omega)];omega
      have e6:((O.length-1:Nat):Int)<(O.length:Int):=by omega
      clear hne HF5 hFo hM hcm
      rw [putF_turn (by decide) (by decide) (by decide)] at HN
      go_upto_region 21 with fail
      have hl5:(setTo O tk).length=O.length:=setTo_len O tk
      have hb6:=HBK.out.other ⟨g,(O.length-1) * 5+4,none⟩ (.int .i64 tk) HGP.out
      have z0:=hb6.cell 0
      have z1:=hb6.cell 1
      have z2:=hb6.cell 2
      simp only [List.getElem?_toArray,List.getElem?_cons_zero,List.getElem?_cons_succ] at z0 z1 z2
      have hsz5:=HB.out.size
      generalize W5.setCell ⟨g,(O.length-1) * 5+4,none⟩ (.int .i64 tk)=W6 at *
      generalize Value.slice (some ⟨g,0,none⟩) O.length cap=V at *
      clear c4 f4 e5 e6 hb6 m0 m1 m2
      go_wp2_with (at_builtin;refine wpList_append_lies _ rfl _ _ 32 rfl W1.heap.size 52 i0 _ 5 40 Tryz.underlying32 hi0 hz0 hz1 hz2 rfl (by omega) _ _ _ rfl (HO.out.alloc _) ⟨W6.heap.size,0,none⟩ 1 1 [.int .i64 1,.int .i64 p1,.int .i64 p2,.int .i64 tk,.int .i64 (-1)] rfl rfl (World.news_of_block (cs:=#[.int .i64 1,.int .i64 p1,.int .i64 p2,.int .i64 tk,.int .i64 (-1)]) (t:=52) (fr:=(0,0)) (heap_alloc_new W6 _)) (by simp [Value.oneCell']) (by omega) (by unfold maxLen;omega) (by omega) (by simp;omega) (W6.heap.size+1) (by simp) ?_;intro gg cap3 w3 hown3 hgrow hat3 hlt3;have HP3:=Lib.hid hown3;have HB3:=Lib.hid (push_low HB.out HO.out hgrow);clear hown3 hgrow hat3 hlt3)
      have HP4:=Lib.hid (fas_step (l:=setTo O tk) (k:=1) (p:=(p1,p2)) (a:=tk) (b:=-1) HP3.out rfl)
      go_wp2
      go_roundw
      case rel=>exact ⟨i+1,s1,c1,1,_,by omega,by go_num,rfl,rfl,rfl,HN,by have:=HP4.out;simpa only [List.length_append,hl5] using Lib.hid this,HB3⟩
      case measure=>simp [intOf];omega
    ·have hknow:kindP s1 c1=0:=by unfold kindP;rw [if_neg (fun q=>hc q.2),if_neg (fun q=>by omega)]
     have t2:(c1==0)=false:=by rw [beq_eq_false_iff_ne];exact hc
     have t3:(s1==0)=false:=by rw [beq_eq_false_iff_ne];omega
     rcases HJ.out.kr with hk | hk | hk
     ·subst hk
      have HN:=Lib.hid (HJ.out.done HHD.out (now:=0) hknow)
      rw [putF_same] at HN
      have e9:((0:Int)==0)=true:=by decide
      clear m0 m1 m2
      go_wp2
      go_roundw
      case rel=>exact ⟨i+1,s1,c1,0,O,by omega,by go_num,rfl,rfl,rfl,HN,Lib.hid hM.out.row,Lib.hid hM.out.be⟩
      case measure=>simp [intOf];omega
     ·subst hk
      have HN:=Lib.hid (HJ.out.done HHD.out (now:=0) hknow)
      have hne:O≠[]:=HJ.out.ne (by decide)
      obtain ⟨g,cap,ev,hcm,hFo⟩:=FoB.of hM.out.row hM.out.be hne
      have HBK:=Lib.hid hM.out.blk
      have HGP:=Lib.hid (fob_ne hFo HBK.out (by decide))
      subst ev
      have hpos:=List.length_pos_iff.2 hne
      have hk9:O.length-1<O.length:=by omega
      obtain ⟨⟨_,_,_,_,c4⟩,⟨_,_,_,_,f4⟩⟩:=hFo.at hk9
      have HF5:=Lib.hid (hFo.setTo hne tk)
      have HO:=Lib.hid (show (W5.setCell ⟨g,(O.length-1) * 5+4,none⟩ (.int .i64 tk)).ownsRow W1.heap.size 52 5 (.slice (some ⟨g,0,none⟩) O.length cap) (setTo O tk).length (faCs (setTo O tk)) by have h9:=HF5.out.owns hcm;rw [setTo_len] at h9 ⊢;exact h9)
      have HB:=Lib.hid HF5.out.b
      have e5:IntKind.i64.wrap ((O.length:Int)-1)=((O.length-1:Nat):Int):=by rw [IntWalk.i64_in _ (by omega)];omega
      have e6:((O.length-1:Nat):Int)<(O.length:Int):=by omega
      clear hne HF5 hFo hM hcm
      rw [putF_end (by decide)] at HN
      go_wp2
      go_roundw
      case rel=>exact ⟨i+1,s1,c1,0,_,by omega,by go_num,rfl,rfl,rfl,HN,HO,HB⟩
      case measure=>simp [intOf];omega
     ·subst hk
      have HN:=Lib.hid (HJ.out.done HHD.out (now:=0) hknow)
      have hne:O≠[]:=HJ.out.ne (by decide)
      obtain ⟨g,cap,ev,hcm,hFo⟩:=FoB.of hM.out.row hM.out.be hne
      have HBK:=Lib.hid hM.out.blk
      have HGP:=Lib.hid (fob_ne hFo HBK.out (by decide))
      subst ev
      have hpos:=List.length_pos_iff.2 hne
      have hk9:O.length-1<O.length:=by omega
      obtain ⟨⟨_,_,_,_,c4⟩,⟨_,_,_,_,f4⟩⟩:=hFo.at hk9
      have HF5:=Lib.hid (hFo.setTo hne tk)
      have HO:=Lib.hid (show (W5.setCell ⟨g,(O.length-1) * 5+4,none⟩ (.int .i64 tk)).ownsRow W1.heap.size 52 5 (.slice (some ⟨g,0,none⟩) O.length cap) (setTo O tk).length (faCs (setTo O tk)) by have h9:=HF5.out.owns hcm;rw [setTo_len] at h9 ⊢;exact h9)
      have HB:=Lib.hid HF5.out.b
      have e5:IntKind.i64.wrap ((O.length:Int)-1)=((O.length-1:Nat):Int):=by rw [IntWalk.i64_in _ (by omega)];omega
      have e6:((O.length-1:Nat):Int)<(O.length:Int):=by omega
      clear hne HF5 hFo hM hcm
      rw [putF_end (by decide)] at HN
      go_wp2
      go_roundw
      case rel=>exact ⟨i+1,s1,c1,0,_,by omega,by go_num,rfl,rfl,rfl,HN,HO,HB⟩
      case measure=>simp [intOf];omega
   ·by_cases hs0:s1=0
    ·have t3:(s1==0)=true:=by rw [beq_iff_eq];exact hs0
     by_cases hc:0<c1
     ·have hknow:kindP s1 c1=2:=by unfold kindP;rw [if_neg (fun q=>hs q.1),if_pos ⟨hs0,hc⟩]
      clear hs0
      rcases HJ.out.kr with hk | hk | hk
      ·subst hk
       have HN:=Lib.hid (HJ.out.done HHD.out (now:=2) hknow)
       rw [putF_new (by decide)] at HN
       have HO:=Lib.hid hM.out.row
       have HB:=Lib.hid hM.out.be
       go_wp2_with (at_builtin;refine wpList_append_lies _ rfl _ _ 32 rfl W1.heap.size 52 i0 _ 5 40 Tryz.underlying32 hi0 hz0 hz1 hz2 rfl (by omega) _ _ _ rfl (HO.out.alloc _) ⟨W5.heap.size,0,none⟩ 1 1 [.int .i64 2,.int .i64 p1,.int .i64 p2,.int .i64 tk,.int .i64 (-1)] rfl rfl (World.news_of_block (cs:=#[.int .i64 2,.int .i64 p1,.int .i64 p2,.int .i64 tk,.int .i64 (-1)]) (t:=52) (fr:=(0,0)) (heap_alloc_new W5 _)) (by simp [Value.oneCell']) (by omega) (by unfold maxLen;omega) (by omega) (by simp;omega) (W5.heap.size+1) (by simp) ?_;intro gg cap3 w3 hown3 hgrow hat3 hlt3;have HP3:=Lib.hid hown3;have HB3:=Lib.hid (push_low HB.out HO.out hgrow);clear hown3 hgrow hat3 hlt3)
       have HP4:=Lib.hid (fas_step (l:=O) (k:=2) (p:=(p1,p2)) (a:=tk) (b:=-1) HP3.out rfl)
       go_wp2
       go_roundw
       case rel=>exact ⟨i+1,s1,c1,2,_,by omega,by go_num,rfl,rfl,rfl,HN,by have:=HP4.out;simpa only [List.length_append] using Lib.hid this,HB3⟩
       case measure=>simp [intOf];omega
      ·subst hk
       have HN:=Lib.hid (HJ.out.done HHD.out (now:=2) hknow)
       have hne:O≠[]:=HJ.out.ne (by decide)
       obtain ⟨g,cap,ev,hcm,hFo⟩:=FoB.of hM.out.row hM.out.be hne
       have HBK:=Lib.hid hM.out.blk
       have HGP:=Lib.hid (fob_ne hFo HBK.out (by decide))
       subst ev
       have hpos:=List.length_pos_iff.2 hne
       have hk9:O.length-1<O.length:=by omega
       obtain ⟨⟨_,_,_,_,c4⟩,⟨_,_,_,_,f4⟩⟩:=hFo.at hk9
       have HF5:=Lib.hid (hFo.setTo hne tk)
       have HO:=Lib.hid (show (W5.setCell ⟨g,(O.length-1) * 5+4,none⟩ (.int .i64 tk)).ownsRow W1.heap.size 52 5 (.slice (some ⟨g,0,none⟩) O.length cap) (setTo O tk).length (faCs (setTo O tk)) by have h9:=HF5.out.owns hcm;rw [setTo_len] at h9 ⊢;exact h9)
       have HB:=Lib.hid HF5.out.b
       have e5:IntKind.i64.wrap ((O.length:Int)-1)=((O.length-1:Nat):Int):=by rw [IntWalk.i64_in _ (by omega)];omega
       have e6:((O.length-1:Nat):Int)<(O.length:Int):=by omega
       clear hne HF5 hFo hM hcm
       rw [putF_turn (by decide) (by decide) (by decide)] at HN
       go_upto_region 21 with fail
       have hl5:(setTo O tk).length=O.length:=setTo_len O tk
       have hb6:=HBK.out.other ⟨g,(O.length-1) * 5+4,none⟩ (.int .i64 tk) HGP.out
       have z0:=hb6.cell 0
       have z1:=hb6.cell 1
       have z2:=hb6.cell 2
       simp only [List.getElem?_toArray,List.getElem?_cons_zero,List.getElem?_cons_succ] at z0 z1 z2
       have hsz5:=HB.out.size
       generalize W5.setCell ⟨g,(O.length-1) * 5+4,none⟩ (.int .i64 tk)=W6 at *
       generalize Value.slice (some ⟨g,0,none⟩) O.length cap=V at *
       clear c4 f4 e5 e6 hb6 m0 m1 m2
       go_wp2_with (at_builtin;refine wpList_append_lies _ rfl _ _ 32 rfl W1.heap.size 52 i0 _ 5 40 Tryz.underlying32 hi0 hz0 hz1 hz2 rfl (by omega) _ _ _ rfl (HO.out.alloc _) ⟨W6.heap.size,0,none⟩ 1 1 [.int .i64 2,.int .i64 p1,.int .i64 p2,.int .i64 tk,.int .i64 (-1)] rfl rfl (World.news_of_block (cs:=#[.int .i64 2,.int .i64 p1,.int .i64 p2,.int .i64 tk,.int .i64 (-1)]) (t:=52) (fr:=(0,0)) (heap_alloc_new W6 _)) (by simp [Value.oneCell']) (by omega) (by unfold maxLen;omega) (by omega) (by simp;omega) (W6.heap.size+1) (by simp) ?_;intro gg cap3 w3 hown3 hgrow hat3 hlt3;have HP3:=Lib.hid hown3;have HB3:=Lib.hid (push_low HB.out HO.out hgrow);clear hown3 hgrow hat3 hlt3)
       have HP4:=Lib.hid (fas_step (l:=setTo O tk) (k:=2) (p:=(p1,p2)) (a:=tk) (b:=-1) HP3.out rfl)
       go_wp2
       go_roundw
       case rel=>exact ⟨i+1,s1,c1,2,_,by omega,by go_num,rfl,rfl,rfl,HN,by have:=HP4.out;simpa only [List.length_append,hl5] using Lib.hid this,HB3⟩
       case measure=>simp [intOf];omega
      ·subst hk
       have HN:=Lib.hid (HJ.out.done HHD.out (now:=2) hknow)
       rw [putF_same] at HN
       have e9:((2:Int)==2)=true:=by decide
       clear m0 m1 m2
       go_wp2
       go_roundw
       case rel=>exact ⟨i+1,s1,c1,2,O,by omega,by go_num,rfl,rfl,rfl,HN,Lib.hid hM.out.row,Lib.hid hM.out.be⟩
       case measure=>simp [intOf];omega
     ·have hknow:kindP s1 c1=0:=by unfold kindP;rw [if_neg (fun q=>hs q.1),if_neg (fun q=>hc q.2)]
      clear hs0
      rcases HJ.out.kr with hk | hk | hk
      ·subst hk
       have HN:=Lib.hid (HJ.out.done HHD.out (now:=0) hknow)
       rw [putF_same] at HN
       have e9:((0:Int)==0)=true:=by decide
       clear m0 m1 m2
       go_wp2
       go_roundw
       case rel=>exact ⟨i+1,s1,c1,0,O,by omega,by go_num,rfl,rfl,rfl,HN,Lib.hid hM.out.row,Lib.hid hM.out.be⟩
       case measure=>simp [intOf];omega
      ·subst hk
       have HN:=Lib.hid (HJ.out.done HHD.out (now:=0) hknow)
       have hne:O≠[]:=HJ.out.ne (by decide)
       obtain ⟨g,cap,ev,hcm,hFo⟩:=FoB.of hM.out.row hM.out.be hne
       have HBK:=Lib.hid hM.out.blk
       have HGP:=Lib.hid (fob_ne hFo HBK.out (by decide))
       subst ev
       have hpos:=List.length_pos_iff.2 hne
       have hk9:O.length-1<O.length:=by omega
       obtain ⟨⟨_,_,_,_,c4⟩,⟨_,_,_,_,f4⟩⟩:=hFo.at hk9
       have HF5:=Lib.hid (hFo.setTo hne tk)
       have HO:=Lib.hid (show (W5.setCell ⟨g,(O.length-1) * 5+4,none⟩ (.int .i64 tk)).ownsRow W1.heap.size 52 5 (.slice (some ⟨g,0,none⟩) O.length cap) (setTo O tk).length (faCs (setTo O tk)) by have h9:=HF5.out.owns hcm;rw [setTo_len] at h9 ⊢;exact h9)
       have HB:=Lib.hid HF5.out.b
       have e5:IntKind.i64.wrap ((O.length:Int)-1)=((O.length-1:Nat):Int):=by rw [IntWalk.i64_in _ (by omega)];omega
       have e6:((O.length-1:Nat):Int)<(O.length:Int):=by omega
       clear hne HF5 hFo hM hcm
       rw [putF_end (by decide)] at HN
       go_wp2
       go_roundw
       case rel=>exact ⟨i+1,s1,c1,0,_,by omega,by go_num,rfl,rfl,rfl,HN,HO,HB⟩
       case measure=>simp [intOf];omega
      ·subst hk
       have HN:=Lib.hid (HJ.out.done HHD.out (now:=0) hknow)
       have hne:O≠[]:=HJ.out.ne (by decide)
       obtain ⟨g,cap,ev,hcm,hFo⟩:=FoB.of hM.out.row hM.out.be hne
       have HBK:=Lib.hid hM.out.blk
       have HGP:=Lib.hid (fob_ne hFo HBK.out (by decide))
       subst ev
       have hpos:=List.length_pos_iff.2 hne
       have hk9:O.length-1<O.length:=by omega
       obtain ⟨⟨_,_,_,_,c4⟩,⟨_,_,_,_,f4⟩⟩:=hFo.at hk9
       have HF5:=Lib.hid (hFo.setTo hne tk)
       have HO:=Lib.hid (show (W5.setCell ⟨g,(O.length-1) * 5+4,none⟩ (.int .i64 tk)).ownsRow W1.heap.size 52 5 (.slice (some ⟨g,0,none⟩) O.length cap) (setTo O tk).length (faCs (setTo O tk)) by have h9:=HF5.out.owns hcm;rw [setTo_len] at h9 ⊢;exact h9)
       have HB:=Lib.hid HF5.out.b
       have e5:IntKind.i64.wrap ((O.length:Int)-1)=((O.length-1:Nat):Int):=by rw [IntWalk.i64_in _ (by omega)];omega
       have e6:((O.length-1:Nat):Int)<(O.length:Int):=by omega
       clear hne HF5 hFo hM hcm
       rw [putF_end (by decide)] at HN
       go_wp2
       go_roundw
       case rel=>exact ⟨i+1,s1,c1,0,_,by omega,by go_num,rfl,rfl,rfl,HN,HO,HB⟩
       case measure=>simp [intOf];omega
    ·have t3:(s1==0)=false:=by rw [beq_eq_false_iff_ne];exact hs0
     have hknow:kindP s1 c1=0:=by unfold kindP;rw [if_neg (fun q=>hs q.1),if_neg (fun q=>hs0 q.1)]
     clear hs0
     rcases HJ.out.kr with hk | hk | hk
     ·subst hk
      have HN:=Lib.hid (HJ.out.done HHD.out (now:=0) hknow)
      rw [putF_same] at HN
      have e9:((0:Int)==0)=true:=by decide
      clear m0 m1 m2
      go_wp2
      go_roundw
      case rel=>exact ⟨i+1,s1,c1,0,O,by omega,by go_num,rfl,rfl,rfl,HN,Lib.hid hM.out.row,Lib.hid hM.out.be⟩
      case measure=>simp [intOf];omega
     ·subst hk
      have HN:=Lib.hid (HJ.out.done HHD.out (now:=0) hknow)
      have hne:O≠[]:=HJ.out.ne (by decide)
      obtain ⟨g,cap,ev,hcm,hFo⟩:=FoB.of hM.out.row hM.out.be hne
      have HBK:=Lib.hid hM.out.blk
      have HGP:=Lib.hid (fob_ne hFo HBK.out (by decide))
      subst ev
      have hpos:=List.length_pos_iff.2 hne
      have hk9:O.length-1<O.length:=by omega
      obtain ⟨⟨_,_,_,_,c4⟩,⟨_,_,_,_,f4⟩⟩:=hFo.at hk9
      have HF5:=Lib.hid (hFo.setTo hne tk)
      have HO:=Lib.hid (show (W5.setCell ⟨g,(O.length-1) * 5+4,none⟩ (.int .i64 tk)).ownsRow W1.heap.size 52 5 (.slice (some ⟨g,0,none⟩) O.length cap) (setTo O tk).length (faCs (setTo O tk)) by have h9:=HF5.out.owns hcm;rw [setTo_len] at h9 ⊢;exact h9)
      have HB:=Lib.hid HF5.out.b
      have e5:IntKind.i64.wrap ((O.length:Int)-1)=((O.length-1:Nat):Int):=by rw [IntWalk.i64_in _ (by omega)];omega
      have e6:((O.length-1:Nat):Int)<(O.length:Int):=by omega
      clear hne HF5 hFo hM hcm
      rw [putF_end (by decide)] at HN
      go_wp2
      go_roundw
      case rel=>exact ⟨i+1,s1,c1,0,_,by omega,by go_num,rfl,rfl,rfl,HN,HO,HB⟩
      case measure=>simp [intOf];omega
     ·subst hk
      have HN:=Lib.hid (HJ.out.done HHD.out (now:=0) hknow)
      have hne:O≠[]:=HJ.out.ne (by decide)
      obtain ⟨g,cap,ev,hcm,hFo⟩:=FoB.of hM.out.row hM.out.be hne
      have HBK:=Lib.hid hM.out.blk
      have HGP:=Lib.hid (fob_ne hFo HBK.out (by decide))
      subst ev
      have hpos:=List.length_pos_iff.2 hne
      have hk9:O.length-1<O.length:=by omega
      obtain ⟨⟨_,_,_,_,c4⟩,⟨_,_,_,_,f4⟩⟩:=hFo.at hk9
      have HF5:=Lib.hid (hFo.setTo hne tk)
      have HO:=Lib.hid (show (W5.setCell ⟨g,(O.length-1) * 5+4,none⟩ (.int .i64 tk)).ownsRow W1.heap.size 52 5 (.slice (some ⟨g,0,none⟩) O.length cap) (setTo O tk).length (faCs (setTo O tk)) by have h9:=HF5.out.owns hcm;rw [setTo_len] at h9 ⊢;exact h9)
      have HB:=Lib.hid HF5.out.b
      have e5:IntKind.i64.wrap ((O.length:Int)-1)=((O.length-1:Nat):Int):=by rw [IntWalk.i64_in _ (by omega)];omega
      have e6:((O.length-1:Nat):Int)<(O.length:Int):=by omega
      clear hne HF5 hFo hM hcm
      rw [putF_end (by decide)] at HN
      go_wp2
      go_roundw
      case rel=>exact ⟨i+1,s1,c1,0,_,by omega,by go_num,rfl,rfl,rfl,HN,HO,HB⟩
      case measure=>simp [intOf];omega
 ·have hi2:¬ (i:Int)<(L.length:Int):=by omega
  have hie:i=L.length:=by omega
  have hO:O=T:=by have:=hI.out.all;rw [hie,List.drop_length,goF] at this;exact this
  have hol:=hI.out.len
  have hbw:=HB1.out.size
  have HE:=Lib.hid (show goF none 0 0 0 [] L=O by rw [hO];exact HT.out)
  obtain ⟨ua,uc,eu⟩:=(ARd.of_fas hrow.out).form
  rw [List.length_map] at eu
  subst eu
  have HBE:=Lib.hid (HB1.out.trans (hB.out.mono (by have:=HB1.out.size;omega)))
  clear hie hO hI HT
  by_cases hbig:20000<O.length
  ·have hb2:(20000:Int)<(O.length:Int):=by omega
   go_wp2
   go_ret2
   exact ⟨L,_,[],5,HP.out,HCL.out,rfl,World.ownsRow_nil _ _ _ _,.inl ⟨by rw [HE.out];exact hbig,rfl,rfl⟩,HBE.out⟩
  ·have hb2:¬ (20000:Int)<(O.length:Int):=by omega
   have HSF:=Lib.hid (sortF_any O (by omega) W1.heap.size (.slice ua O.length uc) wr hrow.out)
   have HGE:=Lib.hid (fun j (e:(Value.slice ua O.length uc).ownBlock=some j)=>row_ge hrow.out e)
   go_wp2_with fail
   refine (HSF.out).mono ?_
   rintro e w9 ⟨rfl,m,hpm,hsm,hrm,hgm⟩
   have HF:=Lib.hid (show FaP (goF none 0 0 0 [] L) m 0 from .inr ⟨by rw [HE.out];omega,by rw [HE.out];exact hpm,faLe_of hsm,rfl⟩)
   have HR9:=Lib.hid (row_base hrm (show base≤W1.heap.size by omega))
   have HB9:=Lib.hid (HBE.out.grown hgm (by have:=hB.out.size;omega) (fun j e=>by have:=HGE.out j e;omega))
   have hml:m.length=O.length:=hpm.length_eq
   clear hpm hsm hrm hgm HSF
   go_wp2
   go_ret2
   exact ⟨L,_,m,0,HP.out,HCL.out,rfl,HR9.out,HF.out,HB9.out⟩
end Go.Proofs.YthhfmppealmblaaGreatDoor
namespace Go.Proofs.YthhfmppealmblaaGreatDoor
open Go.RowKit
theorem mem_allI {S:Sp} {k:Nat} (hk:k<S.rs.length) {n:Int} (hc:0≤S.rs[k].cnt):((k:Int),n)∈allFrom 0 S.rs ↔ S.rs[k].low≤n∧n<S.rs[k].low+S.rs[k].cnt:=by
 rw [mem_allFrom]
 constructor
 ·rintro ⟨j,hj,h1,h2,h3⟩
  have:j=k:=by simp only at h1;omega
  subst this
  omega
 ·rintro ⟨h1,h2⟩
  exact ⟨k,hk,by simp,h1,by simp only;omega⟩
theorem not_all_lo {S:Sp} {a b:Int} (h:a<0):(a,b) ∉ allFrom 0 S.rs:=fun q=>by
 obtain ⟨j,hj,h1,_⟩:=mem_allFrom.1 q
 simp only at h1
 omega
theorem not_all_hi {S:Sp} {a b:Int} (h:(S.rs.length:Int)≤a):(a,b) ∉ allFrom 0 S.rs:=fun q=>by
 obtain ⟨j,hj,h1,_⟩:=mem_allFrom.1 q
 simp only at h1
 omega
set_option maxRecDepth 100000 in
set_option maxHeartbeats 6400000 in
theorem has_any (v1 v2 v3 v4:Value) (S:Sp) (fp:Nat→Value) (PB:Nat) (p1 p2:Int) (w:World) (hsp:SpRd w v1 v2 v3 v4 fp S) (hpb:Blk w PB 27 #[v1,v2,v3,v4]) (hr:∀ r∈S.rs,rkE r=0) :
  Calls Tryz.prog 43 #[.pointer (some ⟨PB,0,none⟩),.agg #[.int .i64 p1,.int .i64 p2]] w fun e w'=>e = .returned (.bool (decide ((p1,p2)∈allFrom 0 S.rs)))∧Below w.heap.size w w':=by
 obtain ⟨_,⟨a2,c2,rfl⟩,_,_⟩:=hsp.forms
 have hal:Below w.heap.size w (w.alloc (.cells #[.int .i64 p1,.int .i64 p2] 45)):=(Below.refl _ w).alloc (Nat.le_refl _) _
 have HX:=Lib.hid (Blk.new w 45 #[.int .i64 p1,.int .i64 p2])
 have HAL:=Lib.hid hal
 have HPB:=Lib.hid (hpb.below hal)
 have HSP:=Lib.hid (hsp.later hal)
 obtain ⟨bb,hbb⟩:∃ bb,decide ((p1,p2)∈allFrom 0 S.rs)=bb:=⟨_,rfl⟩
 rw [hbb]
 have HBB:=Lib.hid hbb
 have HR:=Lib.hid hr
 clear hsp hpb hal hbb hr
 go_enter Tryz.func43,Tryz.ntmps43
 go_upto_region 1 with fail
 obtain ⟨X,hX⟩:∃ X,w.heap.size=X:=⟨_,rfl⟩
 rw [hX] at HX ⊢
 clear hX
 generalize w.alloc (.cells #[.int .i64 p1,.int .i64 p2] 45)=W at *
 have x0:W.cell? ⟨X,0,none⟩=some (.int .i64 p1):=HX.out.cell 0
 have x1:W.cell? ⟨X,1,none⟩=some (.int .i64 p2):=HX.out.cell 1
 have s1:W.cell? ⟨PB,1,none⟩=some (.slice a2 S.rs.length c2):=HPB.out.cell 1
 by_cases h0:p1<0
 ·have HE:RowKit.Hid (bb=false):=Lib.hid (by rw [← HBB.out];exact decide_eq_false (not_all_lo h0))
  go_quiet (fail)
  have HB9:=Lib.hid (below_drewN HAL.out nq)
  go_wp2
  go_ret
  exact ⟨by rw [HE.out];rfl,HB9.out⟩
 by_cases h1:(S.rs.length:Int)≤p1
 ·have HE:RowKit.Hid (bb=false):=Lib.hid (by rw [← HBB.out];exact decide_eq_false (not_all_hi h1))
  go_quiet (fail)
  have HB9:=Lib.hid (below_drewN HAL.out nq)
  go_wp2
  go_ret
  exact ⟨by rw [HE.out];rfl,HB9.out⟩
 obtain ⟨k,rfl⟩:∃ k:Nat,p1=k:=⟨p1.toNat,by omega⟩
 have hk:k<S.rs.length:=by omega
 have hk2:(k:Int)<(S.rs.length:Int):=by omega
 have hrk:=rk_ok (HR.out _ (List.getElem_mem hk))
 have hmem:=mem_allI hk (n:=p2) (by omega)
 obtain ⟨b,o,c',ev,hbl,r0,r1,r2,r3,r4,r5⟩:=HSP.out.rAt k hk
 cases ev
 have hbb:=HBB.out
 obtain ⟨R,hR⟩:∃ R,S.rs[k]=R:=⟨_,rfl⟩
 rw [hR] at r0 r1 r2 r3 r4 r5 hrk hmem
 obtain ⟨nm,kd,nu,de,lo,cn⟩:=R
 dsimp only at r0 r1 r2 r3 r4 r5 hrk hmem
 clear hR
 go_quiet (fail)
 have HAQ:=Lib.hid (below_drewN HAL.out nq)
 have z0:(W.drewN nq).cell? ⟨X,0,none⟩=some (.int .i64 k):=x0
 have z1:(W.drewN nq).cell? ⟨X,1,none⟩=some (.int .i64 p2):=x1
 have z2:(W.drewN nq).cell? ⟨PB,1,none⟩=some (.slice (some ⟨b,o,none⟩) S.rs.length c2):=s1
 have q0:(W.drewN nq).cell? ⟨b,o+k * 6,none⟩=_:=r0
 have q1:(W.drewN nq).cell? ⟨b,o+k * 6+1,none⟩=_:=r1
 have q2:(W.drewN nq).cell? ⟨b,o+k * 6+2,none⟩=_:=r2
 have q3:(W.drewN nq).cell? ⟨b,o+k * 6+3,none⟩=_:=r3
 have q4:(W.drewN nq).cell? ⟨b,o+k * 6+4,none⟩=_:=r4
 have q5:(W.drewN nq).cell? ⟨b,o+k * 6+5,none⟩=_:=r5
 generalize W.drewN nq=W3 at *
 clear x0 x1 s1 r0 r1 r2 r3 r4 r5 HX HPB HSP hbl
 go_upto_region 3 with fail
 have a0:=cell_alloc q0
 have a1:=cell_alloc q1
 have a2':=cell_alloc q2
 have a3:=cell_alloc q3
 have a4:=cell_alloc q4
 have a5:=cell_alloc q5
 have y0:=cell_alloc z0
 have y2:=cell_alloc z2
 go_region
 have HY:=Lib.hid (Blk.new W3 107 #[.string nm,.int .i64 kd,.int .i64 nu,.int .i64 de,.int .i64 lo,.int .i64 cn])
 have HB4:=Lib.hid (below_step HAQ.out ((Below.refl _ W3).alloc (Nat.le_refl _) (.cells #[.string nm,.int .i64 kd,.int .i64 nu,.int .i64 de,.int .i64 lo,.int .i64 cn] 107)))
 have u1:((W3.alloc (.cells #[.string nm,.int .i64 kd,.int .i64 nu,.int .i64 de,.int .i64 lo,.int .i64 cn] 107)).drew).cell? ⟨X,1,none⟩=some (.int .i64 p2):=cell_alloc z1 _
 have u4:((W3.alloc (.cells #[.string nm,.int .i64 kd,.int .i64 nu,.int .i64 de,.int .i64 lo,.int .i64 cn] 107)).drew).cell? ⟨W3.heap.size,4,none⟩=some (.int .i64 lo):=HY.out.cell 4
 have u5:((W3.alloc (.cells #[.string nm,.int .i64 kd,.int .i64 nu,.int .i64 de,.int .i64 lo,.int .i64 cn] 107)).drew).cell? ⟨W3.heap.size,5,none⟩=some (.int .i64 cn):=HY.out.cell 5
 have HB5:=Lib.hid HB4.out.drew
 obtain ⟨Y,hY⟩:∃ Y,W3.heap.size=Y:=⟨_,rfl⟩
 rw [hY] at u4 u5 ⊢
 clear hY HY HB4
 generalize ((W3.alloc (.cells #[.string nm,.int .i64 kd,.int .i64 nu,.int .i64 de,.int .i64 lo,.int .i64 cn] 107)).drew)=W5 at *
 clear a0 a1 a2' a3 a4 a5 y0 y2 q0 q1 q2 q3 q4 q5 z0 z1 z2
 by_cases g1:lo≤p2
 ·have e1:IntKind.i64.wrap (lo+cn)=lo+cn:=IntWalk.i64_in _ (by omega)
  by_cases g2:p2<lo+cn
  ·have HE:RowKit.Hid (bb=true):=Lib.hid (by rw [← hbb];exact decide_eq_true (hmem.2 ⟨g1,g2⟩))
   clear hbb hmem
   go_wp2
   go_ret
   exact ⟨by rw [HE.out];rfl,HB5.out⟩
  ·have HE:RowKit.Hid (bb=false):=Lib.hid (by rw [← hbb];exact decide_eq_false (fun q=>g2 (hmem.1 q).2))
   clear hbb hmem
   go_wp2
   go_ret
   exact ⟨by rw [HE.out];rfl,HB5.out⟩
 ·have HE:RowKit.Hid (bb=false):=Lib.hid (by rw [← hbb];exact decide_eq_false (fun q=>g1 (hmem.1 q).1))
  clear hbb hmem
  go_wp2
  go_ret
  exact ⟨by rw [HE.out];rfl,HB5.out⟩
end Go.Proofs.YthhfmppealmblaaGreatDoor
namespace Go.Proofs.YthhfmppealmblaaGreatDoor
open Go.RowKit
set_option maxRecDepth 100000 in
set_option maxHeartbeats 12800000 in
theorem acheck_any (v1 v2 v3 v4:Value) (S:Sp) (ok:SpOk S) (fp:Nat→Value) (PB:Nat) (vt:Value) (ps:List (Value × List Ev)) (w:World) (t:Tabs w) (hsp:SpRd w v1 v2 v3 v4 fp S) (hpb:Blk w PB 27 #[v1,v2,v3,v4]) (hl:ps.length≤1000) (hll:∀ x∈ps,x.2.length≤1000000) (hps:EvsR w vt ps) :
  Calls Tryz.prog 41 #[.pointer (some ⟨PB,0,none⟩),vt] w (NumR (chkE S (ps.map (·.2))) w):=by
 obtain ⟨at',ct,evt⟩:∃ a c,vt = .slice a ps.length c:=by
  obtain ⟨a,c,e⟩:=hps.rd.form
  exact ⟨a,c,by simpa using e⟩
 subst evt
 obtain ⟨fl,er,hck,her⟩:∃ (fl:Int × Int × Int) (er:Int),ckV (checkP S) = .tuple #[.agg #[.int .i64 fl.1,.int .i64 fl.2.1,.int .i64 fl.2.2],.int .i64 er]∧(checkP S).2=er:=⟨_,_,rfl,rfl⟩
 have HCK:=Lib.hid (check_any v1 v2 v3 v4 S ok w t fp hsp)
 rw [hck] at HCK
 obtain ⟨s0,s1,s2,s3⟩:=hpb.four
 have HER:=Lib.hid her
 have HPS:=Lib.hid hps
 have HPB:=Lib.hid hpb
 have HSP:=Lib.hid hsp
 have HLL:=Lib.hid hll
 clear hck her hps hpb hsp hll t ok
 go_enter Tryz.func41,Tryz.ntmps41
 by_cases he:er=0
 case neg =>
  have q1:(er==0)=false:=by simpa using he
  have HE:=Lib.hid (chkE_sp (ls:=ps.map (·.2)) HER.out he)
  clear he
  go_wp2_with (go_at_call 68;(with_reducible refine (HCK.out).mono ?_);rintro e W ⟨rfl,hb⟩;have HB:=Lib.hid hb;clear hb s0 s1 s2 s3 HCK)
  go_ret
  exact numR HE.out (below_step HB.out ((Below.refl _ W).alloc (Nat.le_refl _) _))
 subst he
 go_wp2_with (go_at_call 68;(with_reducible refine (HCK.out).mono ?_);rintro e W ⟨rfl,hb⟩;have HB:=Lib.hid hb;clear hb s0 s1 s2 s3 HCK)
 have HB2:=Lib.hid (below_step HB.out ((Below.refl _ W).alloc (Nat.le_refl _) (.cells #[.int .i64 fl.1,.int .i64 fl.2.1,.int .i64 fl.2.2] 100)))
 generalize W.alloc (.cells #[.int .i64 fl.1,.int .i64 fl.2.1,.int .i64 fl.2.2] 100)=W2 at *
 have HR0:=Lib.hid (Below.refl W2.heap.size W2)
 have HV0:=Lib.hid (show ∀ j (hj:j<ps.length),j<0→(recE S ps[j].2).2=0 from fun j _ h=>absurd h (Nat.not_lt_zero _))
 clear HB
 go_loopw [23] (fun x wr=>∃ k:Nat,k≤ps.length∧x = .int .i64 k∧RowKit.Hid (∀ j (hj:j<ps.length),j<k→(recE S ps[j].2).2=0)∧RowKit.Hid (Below W2.heap.size W2 wr)) (fun x _=>ps.length-(intOf x).toNat)
 case atStart=>exact ⟨0,Nat.zero_le _,rfl,HV0,HR0⟩
 clear HV0 HR0
 obtain ⟨k,hk,rfl,hV,hR⟩:=hrel
 by_cases hkl:k<ps.length
 ·have hi2:(k:Int)<(ps.length:Int):=by omega
  have HBW:=Lib.hid (below_step HB2.out hR.out)
  have hps:=HPS.out.later HBW.out
  obtain ⟨b,o,c',ev,hbl,k0⟩:=hps.at k hkl
  cases ev
  have hin:ps[k].2∈ps.map (·.2):=List.mem_map.2 ⟨_,List.getElem_mem hkl,rfl⟩
  have hV2:(recE S ps[k].2).2=0→∀ j (hj:j<ps.length),j<k+1→(recE S ps[j].2).2=0:=fun h j hj hjk=>by
   rcases Nat.lt_or_ge j k with q | q
   ·exact hV.out j hj q
   ·have:j=k:=by omega
    subst this
    exact h
  have hev:=hps.all _ (List.getElem_mem hkl)
  have hll:=HLL.out _ (List.getElem_mem hkl)
  obtain ⟨⟨vl,l⟩,hx⟩:∃ x,ps[k]=x:=⟨_,rfl⟩
  rw [hx] at k0 hin hV2 hev hll
  dsimp only at k0 hin hV2 hev hll
  obtain ⟨al,cl,evl⟩:=hev.form
  rw [List.length_map] at evl
  subst evl
  have HBAD:=Lib.hid (fun (h6:(recE S l).2≠0)=>chkE_bad HER.out hin h6)
  have HV2:=Lib.hid hV2
  have HEV:=Lib.hid hev
  have HSPW:=Lib.hid (HSP.out.later HBW.out)
  have HPBW:=Lib.hid (HPB.out.below HBW.out)
  clear hx hin hV2 hev hps hV
  rename World=>W1
  have hbe:=(Below.refl _ W1).alloc (Nat.le_refl W1.heap.size) (.cells (Tryz.zeroCells134.setIfInBounds 0 (.pointer (some ⟨PB,0,none⟩))) 134)
  by_cases hlong:20000<l.length
  ·have h2:(20000:Int)<(l.length:Int):=by omega
   have HN:=Lib.hid (HBAD.out (by rw [recE_long HER.out hlong];decide))
   have HB9:=Lib.hid (below_step HBW.out hbe)
   clear hbe
   go_wp2
   go_ret
   exact numR HN.out HB9.out
  have h2:¬ (20000:Int)<(l.length:Int):=by omega
  have hpx:=PlX.start0 W1 PB
  go_upto_region 10 with fail
  generalize W1.alloc (.cells (Tryz.zeroCells134.setIfInBounds 0 (.pointer (some ⟨PB,0,none⟩))) 134)=W3 at *
  have HI0:=Lib.hid (show PyI W1 v1 v2 v3 v4 fp S PB (onV (l.take 0)) (tickB l 0) W1.heap.size W3 from ⟨HSPW.out,HPBW.out,hpx,hbe,Nat.le_refl _⟩)
  have HF0:=Lib.hid (show ∀ j,j<0→recF S l j=0 from fun j h=>absurd h (Nat.not_lt_zero _))
  clear hpx hbe
  go_wp2
  go_loopw [35] (fun x w2=>∃ i:Nat,i≤l.length∧x = .int .i64 i∧RowKit.Hid (∀ j,j<i→recF S l j=0)∧RowKit.Hid (PyI W1 v1 v2 v3 v4 fp S PB (onV (l.take i)) (tickB l i) W1.heap.size w2)) (fun x _=>l.length-(intOf x).toNat)
  case atStart=>exact ⟨0,Nat.zero_le _,rfl,HF0,HI0⟩
  clear HF0 HI0
  obtain ⟨i,hi,rfl,hF,hI⟩:=hrel
  by_cases hil:i<l.length
  ·have hi3:(i:Int)<(l.length:Int):=by omega
   obtain ⟨be,oe,c',ev,hec⟩:=HEV.out.evC' i hil
   cases ev
   have hbin:=bin_upto HER.out (by omega:i≤l.length) hF.out
   have HPY:=Lib.hid (play_any W1 v1 v2 v3 v4 S HER.out fp PB W1.heap.size be (oe+i * 5) _ hbin _ l[i] wr hI.out hec)
   have hre:=recF_evR (S:=S) hil
   have HON:=Lib.hid (onV_take hil)
   have HTB:=Lib.hid (tickB_next hil)
   have HBD:=Lib.hid (show recF S l i≠0→(recE S l).2≠0 from fun h q=>h (((recE_iff HER.out).1 q).2 i hil))
   have HF2:=Lib.hid (show recF S l i=0→∀ j,j<i+1→recF S l j=0 from fun h j hj=>by
    rcases Nat.lt_or_ge j i with q | q
    ·exact hF.out j q
    ·rw [show j=i by omega];exact h)
   rw [hre] at HBD HF2
   clear hre hbin hec hF
   go_wp2_with fail
   refine (HPY.out).mono ?_
   rintro e w4 (⟨h0,rfl,hpy,hg⟩ | ⟨h0,rfl,hb4,hg⟩)
   ·have HI4:=Lib.hid hpy
    rw [← HON.out,← HTB.out] at HI4
    have HF4:=Lib.hid (HF2.out h0)
    clear HBD HF2 h0 hpy hg HPY
    go_wp2
    go_roundw
    case rel=>exact ⟨i+1,by omega,by go_num,HF4,HI4⟩
    case measure=>simp [intOf];omega
   ·have HN:=Lib.hid (HBAD.out (HBD.out h0))
    have HB9:=Lib.hid (below_step HBW.out hb4)
    clear HBD HF2 h0 hb4 hg HPY
    go_wp2
    go_ret
    exact numR HN.out HB9.out
  ·have hi3:¬ (i:Int)<(l.length:Int):=by omega
   have HVN:=Lib.hid (HV2.out ((recE_iff HER.out).2 ⟨by omega,fun j hj=>hF.out j (by omega)⟩))
   have HRN:=Lib.hid (below_step hR.out hI.out.be)
   go_wp2
   go_roundw
   case rel=>exact ⟨k+1,by omega,by go_num,HVN,HRN⟩
   case measure=>simp [intOf];omega
 ·have hi2:¬ (k:Int)<(ps.length:Int):=by omega
  have HN:=Lib.hid (chkE_good HER.out (ls:=ps.map (·.2)) (fun x hx=>by
   obtain ⟨y,hy,rfl⟩:=List.mem_map.1 hx
   obtain ⟨j,hj,rfl⟩:=List.getElem_of_mem hy
   exact hV.out j hj (by omega)))
  have HB9:=Lib.hid (below_step HB2.out hR.out)
  go_wp2
  go_ret
  exact numR HN.out HB9.out
end Go.Proofs.YthhfmppealmblaaGreatDoor
namespace Go.Proofs.YthhfmppealmblaaGreatDoor
open Go.RowKit
end Go.Proofs.YthhfmppealmblaaGreatDoor
namespace Go.Proofs.YthhfmppealmblaaGreatDoor
open Go.RowKit
end Go.Proofs.YthhfmppealmblaaGreatDoor
namespace Go.Proofs.YthhfmppealmblaaGreatDoor
open Go.RowKit
end Go.Proofs.YthhfmppealmblaaGreatDoor
