/-
  A part of the proof: AL6.
-/
import Derived.Test.YthhfmppealmblaaGreatDoorK10
import Derived.Test.YthhfmppealmblaaGreatDoorK11
namespace Go.Proofs.YthhfmppealmblaaGreatDoor
open Go.RowKit
theorem mput_setM {κ:Type} [DecidableEq κ] (x:κ):∀ m:List κ,∃ m',mput x (.bool true) (setM m)=setM m'∧∀ q,q∈m' ↔ q∈m∨q=x
 | []=>⟨[x],rfl,fun q=>by simp⟩
 | y :: m=>by
  obtain ⟨m',h1,h2⟩:=mput_setM x m
  unfold setM at h1 ⊢
  by_cases e:y=x
  ·refine ⟨y :: m,?_,fun q=>?_⟩
   ·rw [List.map_cons,mput,if_pos e.symm,e]
   ·rw [List.mem_cons,← e]
    constructor
    ·exact .inl
    ·rintro (h | h)
     ·exact h
     ·exact .inl h
  ·refine ⟨y :: m',?_,fun q=>?_⟩
   ·rw [List.map_cons,mput,if_neg (fun q=>e q.symm),h1,List.map_cons]
   ·rw [List.mem_cons,h2,List.mem_cons,or_assoc]
structure SoM (w:World) (ma:Nat) (act:List Pl) (m:List Pp) (W:World):Prop where
 b:Below w.heap.size w W
 mp:Mp ekP W w.heap.size (setM m)
 mA:Mp ekL W ma (setM act)
 ne:w.heap.size<ma
theorem SoM.low {w:World} {ma:Nat} {act:List Pl} {m:List Pp} {W W':World} (h:SoM w ma act m W) (hb:Below W.heap.size W W'):SoM w ma act m W':=⟨below_step h.b hb,h.mp.below hb,h.mA.below hb,h.ne⟩
theorem SoM.upd {w:World} {ma:Nat} {act:List Pl} {m m':List Pp} {W W':World} (h:SoM w ma act m W) {l:List (Pp × Value)} (hm:Mp ekP W' w.heap.size l) (e:l=setM m') (hg:W.grownBy W' (some w.heap.size)):SoM w ma act m' W' :=
 ⟨h.b.grown hg h.b.size (fun j q=>by cases q;exact Nat.le_refl _),e ▸ hm,h.mA.kept hg (fun q=>by have:=Option.some.inj q;have:=h.ne;omega),h.ne⟩
theorem SoM.blk {w:World} {ma:Nat} {act:List Pl} {m:List Pp} {W W':World} (h:SoM w ma act m W) {i:Nat} {t:TypeId} {cs:Array Value} (hB:Blk W i t cs) (hg:W.grownBy W' (some w.heap.size)):Blk W' i t cs:=hB.grown hg (fun e=>mp_not_blk h.mp hB (Option.some.inj e).symm)
def SouE (S:Sp) (f:Th→Int) (w:World) (e:Ending) (w':World):Prop:=∃ mb m,e = .returned (.map (some mb))∧w.heap.size≤mb∧Mp ekP w' mb (setM m)∧m.Nodup∧(∀ p,p∈m ↔ Snd S f p)∧Below w.heap.size w w'
set_option maxRecDepth 100000 in
set_option maxHeartbeats 12800000 in
theorem sounding_any (v1 v2 v3 v4:Value) (S:Sp) (hc:(checkP S).2=0) (fp:Nat→Value) (PB B:Nat) (f:Th→Int) (t:Int) (hf:OnOk S f) (w:World) (hsp:SpRd w v1 v2 v3 v4 fp S) (hpb:Blk w PB 27 #[v1,v2,v3,v4]) (hpx:PlX f t PB w B) :
  Calls Tryz.prog 61 #[.pointer (some ⟨B,0,none⟩)] w (SouE S f w):=by
 have hsg:=spGood hc
 have hss:=hsg.ss
 obtain ⟨_,_,⟨a3,c3,rfl⟩,_⟩:=hsp.forms
 have hmm:=@run_makeMap Tryz.prog
 have hb0:Below w.heap.size w (w.alloc (.map #[] 0)):=(Below.refl _ w).alloc (Nat.le_refl _) _
 have HACT:=Lib.hid (acting_any _ v2 _ v4 S hc fp PB B f t hf _ (hsp.later hb0) (hpb.below hb0) (hpx.below hb0))
 have HM0:=Lib.hid (show Mp ekP (w.alloc (.map #[] 0)) w.heap.size (setM ([]:List Pp)) from Mp.made w)
 have HB0:=Lib.hid hb0
 have HSG:=Lib.hid hsg
 have HF:=Lib.hid hf
 have HSP:=Lib.hid hsp
 have HPB:=Lib.hid hpb
 have HPX:=Lib.hid hpx
 clear hsg hc hf hsp hpb hpx hb0
 go_enter Tryz.func61,Tryz.ntmps61
 go_wp2_with fail
 refine (HACT.out).mono ?_
 rintro e W1 ⟨ma,act,rfl,hma,hmp,hacts,hb1⟩
 have HA:=Lib.hid hacts
 have HM1:=Lib.hid (show SoM w ma act [] W1 from ⟨below_step HB0.out hb1,HM0.out.below hb1,hmp,by rw [World.size_alloc] at hma;omega⟩)
 have HS1:=Lib.hid (SoS.start S f)
 have p0:W1.cell? ⟨B,0,none⟩=some (.pointer (some ⟨PB,0,none⟩)):=(HPX.out.below HM1.out.b).sp
 have s2:W1.cell? ⟨PB,2,none⟩=some (.slice a3 S.ss.length c3):=(HPB.out.below HM1.out.b).cell 2
 clear hma hmp hacts hb1 HACT HM0 HB0 hmm
 go_wp2
 clear p0 s2
 go_loopw [21] (fun x wr=>∃ (i:Nat) (m:List Pp),i≤S.ss.length∧x = .int .i64 i∧RowKit.Hid (SoM w ma act m wr)∧RowKit.Hid (SoS S f i m)) (fun x _=>S.ss.length-(intOf x).toNat)
 case atStart=>exact ⟨0,[],Nat.zero_le _,rfl,HM1,HS1⟩
 clear HM1 HS1
 obtain ⟨i,m,hi,rfl,hI,hS⟩:=hrel
 by_cases hil:i<S.ss.length
 ·have hi2:(i:Int)<(S.ss.length:Int):=by omega
  have hi80:(i:Int)<80:=by omega
  obtain ⟨b,o,c',ev,hbl,r0,r1,r2,r3,r4⟩:=HSP.out.sAt i hil
  cases ev
  have hdv:=HSG.out.s _ (List.getElem_mem hil)
  obtain ⟨ap,cq,hpv⟩:=(HSP.out.p i hil).form
  rw [List.length_map] at hpv
  have HPT:=Lib.hid (fun (j:Nat) (hj:j<S.ss[i].parts.length)=>HSP.out.pAt i hil j hj)
  have HPG:=Lib.hid (fun (j:Nat) (hj:j<S.ss[i].parts.length)=>HSG.out.part (List.getElem_mem hil) (List.getElem_mem hj))
  have HTAK:=Lib.hid (fun (j:Nat) (m:List Pp) (h:SoP S f i j m) (hj:j<S.ss[i].parts.length)=>h.take hil hj rfl)
  have HSKI:=Lib.hid (fun (j:Nat) (y:Int) (m:List Pp) (h:SoY S f i j y m) (hn:¬ Acts S f (S.ss[i].div,y))=>h.skip hil hn)
  have HADD:=Lib.hid (fun (hon:f (2,0,(i:Int))=1) (j:Nat) (y:Int) (m m':List Pp) (h:SoY S f i j y m) (hj:j<S.ss[i].parts.length) (ha:Acts S f (S.ss[i].div,y)) (h1:S.ss[i].parts[j].lo≤y) (h2:y≤S.ss[i].parts[j].hi) (hm:∀ p,p∈m' ↔ p∈m∨p=(S.ss[i].parts[j].rank,y+S.ss[i].parts[j].shift))=>h.add hil hj hon ha h1 h2 hm)
  have HENY:=Lib.hid (fun (j:Nat) (y:Int) (m:List Pp) (h:SoY S f i j y m) (hj:j<S.ss[i].parts.length) (hy:S.ss[i].parts[j].hi<y)=>h.end hil hj hy)
  have HENP:=Lib.hid (fun (j:Nat) (m:List Pp) (h:SoP S f i j m) (hj:S.ss[i].parts.length≤j)=>h.end hil hj)
  generalize hX:S.ss[i]=X at r0 r1 r2 r3 hdv hpv HPT HPG HTAK HSKI HADD HENY HENP
  clear hX
  obtain ⟨nm,dI,nu,de,pts⟩:=X
  dsimp only at r0 r1 r2 r3 hdv hpv HPT HPG HTAK HSKI HADD HENY HENP
  rw [hpv] at r4
  replace r0:=(hI.out.b.cell hbl).trans r0
  replace r1:=(hI.out.b.cell hbl).trans r1
  replace r2:=(hI.out.b.cell hbl).trans r2
  replace r3:=(hI.out.b.cell hbl).trans r3
  replace r4:=(hI.out.b.cell hbl).trans r4
  go_upto_region 6 with fail
  have hb2:Below wr.heap.size wr (wr.alloc (.cells #[.string nm,.int .i64 dI,.int .i64 nu,.int .i64 de,.slice ap pts.length cq] 151)):=(Below.refl _ wr).alloc (Nat.le_refl _) _
  have HM2:=Lib.hid (hI.out.low hb2)
  have HX2:=Lib.hid (Blk.new wr 151 #[.string nm,.int .i64 dI,.int .i64 nu,.int .i64 de,.slice ap pts.length cq])
  obtain ⟨P,hP⟩:∃ P,wr.heap.size=P:=⟨_,rfl⟩
  rw [hP] at HX2 ⊢
  generalize wr.alloc (.cells #[.string nm,.int .i64 dI,.int .i64 nu,.int .i64 de,.slice ap pts.length cq] 151)=W2 at *
  clear r0 r1 r2 r3 r4 hP hb2 hI
  have hpon:=(HPX.out.below HM2.out.b).on (onIx_stop (n:=i) (by omega))
  unfold onCell at hpon
  rw [if_neg (show ¬ (2:Int)=4 by decide),show 1+(768+i)=769+i by omega] at hpon
  have z3:W2.cell? ⟨P,4,none⟩=some (.slice ap pts.length cq):=HX2.out.cell 4
  by_cases hon:f (2,0,(i:Int))=1
  ·rw [decide_eq_true hon] at hpon
   have HTK:=Lib.hid hS.out.take
   clear hS
   go_wp2
   clear hpon z3
   go_loopw [36] (fun x wr=>∃ (j:Nat) (m:List Pp),j≤pts.length∧x = .int .i64 j∧RowKit.Hid (SoM w ma act m wr)∧RowKit.Hid (SoP S f i j m)∧RowKit.Hid (Blk wr P 151 #[.string nm,.int .i64 dI,.int .i64 nu,.int .i64 de,.slice ap pts.length cq])) (fun x _=>pts.length-(intOf x).toNat)
   case atStart=>exact ⟨0,m,Nat.zero_le _,rfl,HM2,HTK,HX2⟩
   clear HM2 HTK HX2
   obtain ⟨j,m,hj,rfl,hI,hS,hX⟩:=hrel
   by_cases hjl:j<pts.length
   ·have hj2:(j:Int)<(pts.length:Int):=by omega
    obtain ⟨bp,op,c',ev,hbp,t0,t1,t2,t3⟩:=HPT.out j hjl
    rw [hpv] at ev
    cases ev
    obtain ⟨_,_,_,g1,g2,g3,g4,g5,_⟩:=HPG.out j hjl
    have HTK:=Lib.hid (HTAK.out j m hS.out hjl)
    have HAD2:=Lib.hid (fun (y:Int) (m m':List Pp) (h:SoY S f i j y m) (ha:Acts S f (dI,y))=>HADD.out hon j y m m' h hjl ha)
    have HEN2:=Lib.hid (fun (y:Int) (m:List Pp) (h:SoY S f i j y m)=>HENY.out j y m h hjl)
    obtain ⟨rk,hrk⟩:∃ x,pts[j].rank=x:=⟨_,rfl⟩
    obtain ⟨sh,hsh⟩:∃ x,pts[j].shift=x:=⟨_,rfl⟩
    obtain ⟨lo,hlo⟩:∃ x,pts[j].lo=x:=⟨_,rfl⟩
    obtain ⟨hi,hhi⟩:∃ x,pts[j].hi=x:=⟨_,rfl⟩
    rw [hrk] at t0 HAD2
    rw [hsh] at t1 g1 g2 HAD2
    rw [hlo] at t2 g3 g4 HTK HAD2
    rw [hhi] at t3 g4 g5 HAD2 HEN2
    replace t0:=(hI.out.b.cell hbp).trans t0
    replace t1:=(hI.out.b.cell hbp).trans t1
    replace t2:=(hI.out.b.cell hbp).trans t2
    replace t3:=(hI.out.b.cell hbp).trans t3
    clear hrk hsh hlo hhi hS
    go_upto_region 10 with fail
    have hb2:Below wr.heap.size wr (wr.alloc (.cells #[.int .i64 rk,.int .i64 sh,.int .i64 lo,.int .i64 hi] 148)):=(Below.refl _ wr).alloc (Nat.le_refl _) _
    have HM3:=Lib.hid (hI.out.low hb2)
    have HX3:=Lib.hid (hX.out.below hb2)
    have HP3:=Lib.hid (Blk.new wr 148 #[.int .i64 rk,.int .i64 sh,.int .i64 lo,.int .i64 hi])
    obtain ⟨P2,hP2⟩:∃ P2,wr.heap.size=P2:=⟨_,rfl⟩
    rw [hP2] at HP3 ⊢
    generalize wr.alloc (.cells #[.int .i64 rk,.int .i64 sh,.int .i64 lo,.int .i64 hi] 148)=W3 at *
    clear t0 t1 t2 t3 hP2 hb2 hI hX
    have p2:W3.cell? ⟨P2,2,none⟩=some (.int .i64 lo):=HP3.out.cell 2
    go_wp2
    clear p2
    go_loopw [9] (fun x wr=>∃ (y:Int) (m:List Pp),x = .int .i64 y∧lo≤y∧y≤hi+1∧RowKit.Hid (SoM w ma act m wr)∧RowKit.Hid (SoY S f i j y m)∧RowKit.Hid (Blk wr P 151 #[.string nm,.int .i64 dI,.int .i64 nu,.int .i64 de,.slice (some ⟨bp,op,none⟩) pts.length cq])∧RowKit.Hid (Blk wr P2 148 #[.int .i64 rk,.int .i64 sh,.int .i64 lo,.int .i64 hi])) (fun x _=>(hi+1-intOf x).toNat)
    case atStart=>exact ⟨lo,m,rfl,Int.le_refl _,by omega,HM3,HTK,HX3,HP3⟩
    clear HM3 HTK HX3 HP3
    obtain ⟨y,m,rfl,hyl,hyh,hI,hS,hX,hP⟩:=hrel
    have p3:wr.cell? ⟨P2,3,none⟩=some (.int .i64 hi):=hP.out.cell 3
    by_cases hy:y≤hi
    ·have x1:wr.cell? ⟨P,1,none⟩=some (.int .i64 dI):=hX.out.cell 1
     have hmA:=hI.out.mA
     obtain ⟨bb,hbb⟩:∃ bb,decide ((dI,y)∈act)=bb:=⟨_,rfl⟩
     have hget:(mget (dI,y) (setM act)).getD (.bool false) = .bool bb:=by
      rw [mget_set,← hbb]
      congr
     have hlk:(Instr.lookup 178 (.map (some ma)) (.agg #[.int .i64 dI,.int .i64 y]) false).run Tryz.prog wr = .ok (.bool bb) wr:=by
      rw [← hget]
      exact (hmA.lookup pl_keys Tryz.underlying178 (Tryz.zeroValue4 _) (dI,y)).1
     have hac:=HA.out (dI,y)
     clear hmA hget
     cases bb with
     | false =>
      have HN:=Lib.hid (HSKI.out j y m hS.out (fun q=>of_decide_eq_false hbb (hac.2 q)))
      clear hbb hac hS
      go_wp2
      go_roundw
      case rel=>exact ⟨y+1,m,by go_num,by omega,by omega,hI,HN,hX,hP⟩
      case measure=>simp [intOf];omega
     | true =>
      have hact:=hac.1 (of_decide_eq_true hbb)
      obtain ⟨m',hm1,hm2⟩:=mput_setM (rk,y+sh) m
      have HN:=Lib.hid (HAD2.out y m m' hS.out hact hyl hy hm2)
      have HMQ:=Lib.hid hm1
      have p0:wr.cell? ⟨P2,0,none⟩=some (.int .i64 rk):=hP.out.cell 0
      have p1:wr.cell? ⟨P2,1,none⟩=some (.int .i64 sh):=hP.out.cell 1
      have e5:IntKind.i64.wrap (y+sh)=y+sh:=IntWalk.i64_in _ (by omega)
      have hmp:=hI.out.mp
      clear hbb hac hact hm1 hm2 hS
      go_upto_region 12 with (at_mapUpdate;refine wpList_update_mp _ rfl _ _ _ 131 rfl 4 pp_keys Tryz.underlying131 rfl hmp (rk,y+sh) (.bool true) rfl rfl ?_;intro W5 hm5 hg5 hs5)
      have HM5:=Lib.hid (hI.out.upd hm5 HMQ.out hg5)
      have HX5:=Lib.hid (hI.out.blk hX.out hg5)
      have HP5:=Lib.hid (hI.out.blk hP.out hg5)
      clear hm5 hg5 hs5 hmp hI hX hP p0 p1 p3 x1 hlk
      go_wp2
      go_roundw
      case rel=>exact ⟨y+1,m',by go_num,by omega,by omega,HM5,HN,HX5,HP5⟩
      case measure=>simp [intOf];omega
    ·have HN:=Lib.hid (HEN2.out y m hS.out (by omega))
     clear hS
     go_wp2
     go_roundw
     case rel=>exact ⟨j+1,m,by omega,by go_num,hI,HN,hX⟩
     case measure=>simp [intOf];omega
   ·have hj2:¬ (j:Int)<(pts.length:Int):=by omega
    have HN:=Lib.hid (HENP.out j m hS.out (by omega))
    clear hS
    go_wp2
    go_roundw
    case rel=>exact ⟨i+1,m,by omega,by go_num,hI,HN⟩
    case measure=>simp [intOf];omega
  ·rw [decide_eq_false hon] at hpon
   have HN:=Lib.hid (hS.out.off hon)
   clear hon hS
   go_wp2
   go_roundw
   case rel=>exact ⟨i+1,m,by omega,by go_num,HM2,HN⟩
   case measure=>simp [intOf];omega
 ·have hi2:¬ (i:Int)<(S.ss.length:Int):=by omega
  have hie:i=S.ss.length:=by omega
  have HALL:=Lib.hid (fun p=>SoS.all HF.out (by rw [← hie];exact hS.out) p)
  have HND:=Lib.hid (show m.Nodup by have:=hI.out.mp.nodup;rwa [setM_keys] at this)
  clear hie
  go_wp2
  go_ret
  exact ⟨_,m,rfl,Nat.le_refl _,hI.out.mp,HND.out,HALL.out,hI.out.b⟩
end Go.Proofs.YthhfmppealmblaaGreatDoor
