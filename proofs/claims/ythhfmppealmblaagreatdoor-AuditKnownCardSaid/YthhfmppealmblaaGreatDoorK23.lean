/-
  A part of the proof: AK5, CO, RP, RN, ON, AE2.
-/
import Derived.Test.YthhfmppealmblaaGreatDoorK21
import Derived.Test.YthhfmppealmblaaGreatDoorK22
import Derived.OwnWalk
namespace Go.Proofs.YthhfmppealmblaaGreatDoor
open Go.RowKit
def CmR (S:Sp) (B:(Th→Int)→Pp→Bool) (a b:List Ev) (w:World) (e:Ending) (w':World):Prop:=∃ v m c,e = .returned (.tuple #[v,.int .i64 c])∧w'.ownsRow w.heap.size 52 5 v m.length (faCs m)∧TwP S B a b m c∧Below w.heap.size w w'
theorem twE_a {S:Sp} {a b:List Ev} (h:audE S a≠0):twE S a b=audE S a:=if_neg h
theorem twE_b {S:Sp} {a b:List Ev} (h:audE S a=0):twE S a b=audE S b:=if_pos h
theorem append_ev (W:World) (base:Nat) (V:Value) (xs:List Ev) (hown:W.ownsRow base 42 5 V xs.length (xs.map evC).flatten) (v:Value) (l:List Ev) (hv:ARd W v 5 (l.map evC)) (hl:xs.length+l.length≤1000000000) (hb:base≤W.heap.size) :
  ∃ V' w',(Builtin.append_ #[28,28] 28 #[V,v]).run Tryz.prog W = .ok V' w'∧w'.ownsRow base 42 5 V' (xs++l).length ((xs++l).map evC).flatten∧W.grownBy w' V.ownBlock:=by
 obtain ⟨i0,hi,hz0,hz1,hz2⟩:=info_parts ev_info
 obtain ⟨V',w',h1,h2,h3⟩:=append_src W base 28 42 i0 _ 5 40 Tryz.underlying28 hi hz0 hz1 hz2 rfl (by omega) (by omega) V xs.length _ hown v (l.map evC) (by intro r hr;obtain ⟨p,_,rfl⟩:=List.mem_map.1 hr;rfl) (by intro u hu;obtain ⟨r,hr,hu⟩:=List.mem_flatten.1 hu;obtain ⟨p,_,rfl⟩:=List.mem_map.1 hr;simp only [evC,List.mem_cons,List.not_mem_nil,or_false] at hu;rcases hu with rfl | rfl | rfl | rfl | rfl <;> rfl) hv (by simpa using hl) hb
 refine ⟨V',w',h1,?_,h3⟩
 rw [List.length_map] at h2
 rw [List.length_append,List.map_append,List.flatten_append]
 exact h2
theorem row_emptyE (w:World) (t:TypeId):(w.alloc (.cells #[] t)).ownsRow w.heap.size t 5 (.slice (some ⟨w.heap.size,0,none⟩) 0 0) ([]:List Ev).length (([]:List Ev).map evC).flatten :=
 ⟨rfl,.inr ⟨w.heap.size,0,#[],rfl,Nat.le_refl _,World.alloc_heap_new w _,Nat.le_refl _,Nat.zero_le _,rfl,rfl⟩⟩
end Go.Proofs.YthhfmppealmblaaGreatDoor
namespace Go.Proofs.YthhfmppealmblaaGreatDoor
open Go.RowKit
theorem evsR_two {W:World} {b:Nat} {t:TypeId} {va vb:Value} {la lb:List Ev} (h:Blk W b t #[va,vb]) (ha:ARd W va 5 (la.map evC)) (hb:ARd W vb 5 (lb.map evC)):EvsR W (.slice (some ⟨b,0,none⟩) 2 2) [(va,la),(vb,lb)]:=by
 refine ⟨⟨_,_,rfl,fun i hi=>⟨b,0,rfl,h.lt,fun j u hj=>?_⟩⟩,fun x hx=>?_⟩
 ·have hi2:i<2:=hi
  match i,hi2 with
  | 0,_ =>
   have hj0:j=0:=by
    have:=(List.getElem?_eq_some_iff.1 hj).1
    simpa using this
   subst hj0
   rw [h.cell]
   simpa using hj
  | 1,_ =>
   have hj0:j=0:=by
    have:=(List.getElem?_eq_some_iff.1 hj).1
    simpa using this
   subst hj0
   rw [h.cell]
   simpa using hj
 ·rcases List.mem_cons.1 hx with rfl | hx
  ·exact ha
  ·rw [List.mem_singleton.1 hx]
   exact hb
theorem twE_parts {S:Sp} {a b:List Ev} (h:twE S a b=0):audE S a=0∧audE S b=0:=by
 by_cases h1:audE S a=0
 ·exact ⟨h1,(twE_b h1).symm.trans h⟩
 ·exact absurd ((twE_a h1).symm.trans h) h1
theorem map_take_toCl {l:List Cg} {i:Nat} (h:i<l.length):(l.take (i+1)).map toCl=(l.take i).map toCl++[toCl l[i]]:=by
 rw [List.take_succ_eq_append_getElem h,List.map_append,List.map_cons,List.map_nil]
theorem cg_blk {W:World} {X:Nat} {t:TypeId} {a b c d e:Value} (h:Blk W X t #[a,b,c,d,e]) (u v:Value):Blk ((W.setCell ⟨X,3,none⟩ u).setCell ⟨X,4,none⟩ v) X t #[a,b,c,u,v]:=(h.set 3 u).set 4 v
theorem apart_step {v v2:Value} {gg H:Nat} (h:v2.ownBlock=none∨v2.ownBlock≠v.ownBlock) (hat:v.ownBlock=some gg∨gg=H) (hlt:∀ k,v2.ownBlock=some k→k<H) (n c:Nat):v2.ownBlock=none∨v2.ownBlock≠(Value.slice (some ⟨gg,0,none⟩) n c).ownBlock:=by
 rcases hat with e | e
 ·rw [show (Value.slice (some ⟨gg,0,none⟩) n c).ownBlock=some gg from rfl,← e]
  exact h
 ·refine .inr fun q=>?_
  have:=hlt gg q
  omega
set_option maxRecDepth 100000 in
set_option maxHeartbeats 12800000 in
theorem acompare_any (v1 v2 v3 v4:Value) (S:Sp) (ok:SpOk S) (fp:Nat→Value) (la:List Ev) (va:Value) (lb:List Ev) (vb:Value) (B:(Th→Int)→Pp→Bool) (hB:SndIs S B) (w:World) (t:Tabs w) (hsp:SpRd w v1 v2 v3 v4 fp S) (hla:ARd w va 5 (la.map evC)) (hlb:ARd w vb 5 (lb.map evC)) (hl:la.length≤50000) (hl2:lb.length≤50000) :
  Calls Tryz.prog 24 #[.agg #[v1,v2,v3,v4],va,vb] w (CmR S B la lb w):=by
 obtain ⟨i0,hi0,hz0,hz1,hz2⟩:=info_parts cg_info
 obtain ⟨aa,ca,eva⟩:=hla.evForm
 subst eva
 obtain ⟨ab,cb,evb⟩:=hlb.evForm
 subst evb
 have hal:=(Below.refl _ w).alloc (Nat.le_refl w.heap.size) (.cells #[v1,v2,v3,v4] 27)
 have hk:=Blk.new w 27 #[v1,v2,v3,v4]
 have hal2:Below w.heap.size w ((w.alloc (.cells #[v1,v2,v3,v4] 27)).alloc (.cells #[.slice aa la.length ca,.slice ab lb.length cb] 28)):=hal.alloc (by simp) _
 have hk2:=hk.alloc (.cells #[.slice aa la.length ca,.slice ab lb.length cb] 28)
 have hk3:=Blk.new (w.alloc (.cells #[v1,v2,v3,v4] 27)) 28 #[.slice aa la.length ca,.slice ab lb.length cb]
 rw [World.size_alloc] at hk3
 have HCK:=Lib.hid (acheck_any v1 v2 v3 v4 S ok fp w.heap.size _ [(.slice aa la.length ca,la),(.slice ab lb.length cb,lb)] _ (t.below hal2) (hsp.later hal2) hk2 (by simp) (fun x hx=>by
  rcases List.mem_cons.1 hx with rfl | hx
  ·exact Nat.le_trans hl (by omega)
  ·rw [List.mem_singleton.1 hx];exact Nat.le_trans hl2 (by omega)) (evsR_two hk3 (hla.later hal2) (hlb.later hal2)))
 rw [show ([(.slice aa la.length ca,la),(.slice ab lb.length cb,lb)]:List (Value × List Ev)).map (·.2)=[la,lb] from rfl,chkE_two] at HCK
 have HB0:=Lib.hid hal2
 have B0:=Lib.hid hk2
 have HSP:=Lib.hid hsp
 have HLA:=Lib.hid hla
 have HLB:=Lib.hid hlb
 clear hsp hla hlb ok t hal hk hal2 hk2 hk3
 go_enter Tryz.func24,Tryz.ntmps24
 go_wp2_with fail
 refine (HCK.out).mono ?_
 rintro e W ⟨rfl,hb⟩
 have HB1:=Lib.hid (below_step HB0.out hb)
 have B1:=Lib.hid (B0.out.below hb)
 clear HCK hb B0 HB0
 by_cases hE:twE S la lb=0
 case neg =>
  have HE:=Lib.hid hE
  obtain ⟨e0,he0⟩:∃ e0,twE S la lb=e0:=⟨_,rfl⟩
  have HN:=Lib.hid he0
  rw [he0] at HE hE ⊢
  have q1:(e0==0)=false:=by simpa using hE
  clear he0 hE
  go_wp2
  go_ret2
  exact ⟨_,[],_,rfl,World.ownsRow_nil _ _ _ _,.inl ⟨by rw [HN.out];exact HE.out,rfl,HN.out.symm⟩,HB1.out⟩
 have HE:=Lib.hid hE
 rw [hE]
 obtain ⟨hEa,hEb⟩:=twE_parts hE
 obtain ⟨hck,hrk⟩:=audE_parts hEa
 obtain ⟨_,hrk2⟩:=audE_parts hEb
 have hll:=((recE_iff hck).1 hrk).1
 have hll2:=((recE_iff hck).1 hrk2).1
 have hsg:=spGood hck
 have HCH:=Lib.hid (changes_any v1 v2 v3 v4 S hck fp w.heap.size B hB la (.slice aa la.length ca) hrk W (HSP.out.later HB1.out) B1.out (HLA.out.later HB1.out))
 have HCH2:=Lib.hid (fun (W:World) (hb:Below w.heap.size w W) (hk:Blk W w.heap.size 27 #[v1,v2,v3,v4])=>changes_any v1 v2 v3 v4 S hck fp w.heap.size B hB lb (.slice ab lb.length cb) hrk2 W (HSP.out.later hb) hk (HLB.out.later hb))
 have HGP:=Lib.hid (show ∀ x∈S.ss,∀ key,∀ p∈playsL x key,p∈allFrom 0 S.rs from fun x hx key=>hsg.plays hx)
 have HSB:=Lib.hid hB
 have HLL:=Lib.hid (And.intro hll hll2)
 clear hE hck hrk hrk2 hsg hB hEa hEb hll hll2
 go_wp2_with fail
 refine (HCH.out).mono ?_
 rintro e W2 ⟨vo,out,rfl,hro,hcg,hol,hb2⟩
 have HCG:=Lib.hid hcg
 have HOL:=Lib.hid (show out.length≤200000000 by have:=HLL.out.1;omega)
 have HB2:=Lib.hid (below_step HB1.out hb2)
 have B2:=Lib.hid (B1.out.below hb2)
 have HRO:=Lib.hid (row_base hro HB1.out.size)
 have HC2:=Lib.hid (HCH2.out W2 HB2.out B2.out)
 clear hro hcg hol hb2 HCH HCH2 B1 HB1
 go_wp2_with fail
 refine (HC2.out).mono ?_
 rintro e W5 ⟨vp,out2,rfl,hrp,hcg2,hol2,hb5⟩
 obtain ⟨ap,np,cp,evp⟩:=row_form hrp
 subst evp
 obtain rfl:np=out2.length:=by
  rcases hrp.2 with ⟨h,h0⟩ | ⟨g,cap,cur,h,_⟩
  ·cases h;exact h0.symm
  ·cases h;rfl
 have HCG2:=Lib.hid hcg2
 have HOL2:=Lib.hid (show out2.length≤200000000 by have:=HLL.out.2;omega)
 have HB5:=Lib.hid (below_step HB2.out hb5)
 have HR0:=Lib.hid (show W5.ownsRow w.heap.size 91 5 vo (out++(out2.take 0).map toCl).length (cgCs (out++(out2.take 0).map toCl)) by rw [List.take_zero,List.map_nil,List.append_nil];exact row_later HRO.out hb5)
 have HP0:=Lib.hid hrp
 have HA0:=Lib.hid (show (Value.slice ap out2.length cp).ownBlock=none∨(Value.slice ap out2.length cp).ownBlock≠vo.ownBlock from by
  cases hq:(Value.slice ap out2.length cp).ownBlock with
  | none=>exact .inl rfl
  | some k =>
   refine .inr fun q=>?_
   have h1:=row_ge hrp hq
   have h2:=(HRO.out.lt k q.symm).2
   omega)
 have HL0:=Lib.hid HB5.out
 clear hrp hcg2 hol2 hb5 HRO HC2 HB2 B2 HB5
 go_wp2
 go_loopw [9,24] (fun v x wr=>∃ i:Nat,i≤out2.length∧x = .int .i64 i∧RowKit.Hid (wr.ownsRow w.heap.size 91 5 v (out++(out2.take i).map toCl).length (cgCs (out++(out2.take i).map toCl)))∧RowKit.Hid (wr.ownsRow W2.heap.size 91 5 (.slice ap out2.length cp) out2.length (cgCs out2))∧RowKit.Hid ((Value.slice ap out2.length cp).ownBlock=none∨(Value.slice ap out2.length cp).ownBlock≠v.ownBlock)∧RowKit.Hid (Below w.heap.size w wr)) (fun _ x _=>out2.length-(intOf x).toNat)
 case atStart=>exact ⟨0,Nat.zero_le _,rfl,HR0,HP0,HA0,HL0⟩
 clear HR0 HP0 HA0 HL0
 obtain ⟨i,hi,rfl,hrow,hP,hA,hB⟩:=hrel
 by_cases hil:i<out2.length
 ·have hi2:(i:Int)<(out2.length:Int):=by omega
  obtain ⟨b,o,c',ev,hbl,k0,k1,k2,k3,k4⟩:=(ARd.of_cgs hP.out).cgAt i hil
  cases ev
  have HFM:=Lib.hid (map_take_toCl hil)
  have HEL:=Lib.hid (show (out++(out2.take i).map toCl).length≤400000000 by
   have h1:=HOL.out
   have h2:=HOL2.out
   rw [List.length_append,List.length_map,List.length_take]
   omega)
  obtain ⟨c,hcn⟩:∃ c,out2[i]=c:=⟨_,rfl⟩
  rw [hcn] at k0 k1 k2 k3 k4 HFM
  obtain ⟨tk,⟨p1,p2⟩,sd,cl⟩:=c
  dsimp only at k0 k1 k2 k3 k4
  obtain ⟨E,hEE⟩:∃ E,out++(out2.take i).map toCl=E:=⟨_,rfl⟩
  have HEQ:=Lib.hid (show out++(out2.take (i+1)).map toCl=E++[(tk,(p1,p2),0,sd)] by rw [HFM.out,← hEE,List.append_assoc];rfl)
  rw [hEE] at hrow HEL
  clear hcn hEE HFM
  have hal:Below wr.heap.size wr (wr.alloc (.cells #[.int .i64 tk,.int .i64 p1,.int .i64 p2,.int .i64 sd,.int .i64 cl] 91)):=(Below.refl _ wr).alloc (Nat.le_refl _) _
  have HX:=Lib.hid (Blk.new wr 91 #[.int .i64 tk,.int .i64 p1,.int .i64 p2,.int .i64 sd,.int .i64 cl])
  have HRW:=Lib.hid (row_later hrow.out hal)
  have HPW:=Lib.hid (row_later hP.out hal)
  have HBW:=Lib.hid (below_step hB.out hal)
  have HLT:=Lib.hid (And.intro (fun k (e:u9.ownBlock=some k)=>(hrow.out.lt k e).2) (fun k (e:(Value.slice (some ⟨b,o,none⟩) out2.length cp).ownBlock=some k)=>(hP.out.lt k e).2))
  have HSZ:=Lib.hid hB.out.size
  go_upto_region 8 with fail
  obtain ⟨X,hX⟩:∃ X,wr.heap.size=X:=⟨_,rfl⟩
  rw [hX] at HX HLT HSZ ⊢
  generalize wr.alloc (.cells #[.int .i64 tk,.int .i64 p1,.int .i64 p2,.int .i64 sd,.int .i64 cl] 91)=W3 at *
  clear k0 k1 k2 k3 k4 hX hal hrow hP hB hbl
  have x3:W3.cell? ⟨X,3,none⟩=some (.int .i64 sd):=HX.out.cell 3
  have x4:W3.cell? ⟨X,4,none⟩=some (.int .i64 cl):=HX.out.cell 4
  have f3:=HX.out.frozen 3
  have f4:=HX.out.frozen 4
  have f5:(W3.setCell ⟨X,3,none⟩ (.int .i64 0)).frozen? ⟨X,4,none⟩=false:=(HX.out.set 3 _).frozen 4
  have g1:=set_grown W3 X 3 (.int .i64 0)
  have g2:=set_grown (W3.setCell ⟨X,3,none⟩ (.int .i64 0)) X 4 (.int .i64 sd)
  have HX4:=Lib.hid (cg_blk HX.out (.int .i64 0) (.int .i64 sd))
  have hne:∀ {v:Value},(∀ k,v.ownBlock=some k→k<X)→v.ownBlock=none∨v.ownBlock≠some X:=fun {v} h => .inr fun q=>Nat.lt_irrefl _ (h X q)
  have HR4:=Lib.hid ((HRW.out.kept g1 (hne HLT.out.1)).kept g2 (hne HLT.out.1))
  have HP4:=Lib.hid ((HPW.out.kept g1 (hne HLT.out.2)).kept g2 (hne HLT.out.2))
  have HB4:=Lib.hid ((HBW.out.grown g1 HBW.out.size (fun r e=>by cases e;exact HSZ.out)).grown g2 (Nat.le_trans HBW.out.size g1.size) (fun r e=>by cases e;exact HSZ.out))
  clear g1 g2 hne HRW HPW HBW
  go_upto_region 9 with fail
  generalize (W3.setCell ⟨X,3,none⟩ (.int .i64 0)).setCell ⟨X,4,none⟩ (.int .i64 sd)=W4 at *
  clear x3 x4 f3 f4 f5 HX HLT HSZ
  have m0:W4.cell? ⟨X,0,none⟩=some (.int .i64 tk):=HX4.out.cell 0
  have m1:W4.cell? ⟨X,1,none⟩=some (.int .i64 p1):=HX4.out.cell 1
  have m2:W4.cell? ⟨X,2,none⟩=some (.int .i64 p2):=HX4.out.cell 2
  have m3:W4.cell? ⟨X,3,none⟩=some (.int .i64 0):=HX4.out.cell 3
  have m4:W4.cell? ⟨X,4,none⟩=some (.int .i64 sd):=HX4.out.cell 4
  have hsz4:=HB4.out.size
  have hel:=HEL.out
  have hol2:=HOL2.out
  have HPL:=Lib.hid (fun k e=>Nat.lt_succ_of_lt (HP4.out.lt k e).2)
  go_upto_region 10 with (at_builtin;refine wpList_append_lies _ rfl _ _ 87 rfl w.heap.size 91 i0 _ 5 40 Tryz.underlying87 hi0 hz0 hz1 hz2 rfl (by omega) _ _ _ rfl (HR4.out.alloc _) ⟨W4.heap.size,0,none⟩ 1 1 [.int .i64 tk,.int .i64 p1,.int .i64 p2,.int .i64 0,.int .i64 sd] rfl rfl (World.news_of_block (cs:=#[.int .i64 tk,.int .i64 p1,.int .i64 p2,.int .i64 0,.int .i64 sd]) (t:=91) (fr:=(0,0)) (heap_alloc_new W4 _)) (by simp [Value.oneCell']) (by omega) (by unfold maxLen;omega) (by omega) (by simp;omega) (W4.heap.size+1) (by simp) ?_;intro gg cap3 w5 hown3 hgrow hat3 hlt3)
  have HR5:=Lib.hid (cgs_step (l:=E) (a:=tk) (p:=(p1,p2)) (b:=0) (c:=sd) hown3 rfl)
  have HB5:=Lib.hid (push_low HB4.out HR4.out hgrow)
  have HP5:=Lib.hid ((HP4.out.alloc _).kept hgrow hA.out)
  have HA5:=Lib.hid (apart_step hA.out hat3 HPL.out (E.length+1) cap3)
  clear hown3 hgrow hat3 hlt3 m0 m1 m2 m3 m4 HX4 hA HPL
  go_wp2
  go_roundw
  case rel=>exact ⟨i+1,by omega,by go_num,by rw [HEQ.out];simpa only [List.length_append] using HR5,HP5,HA5,HB5⟩
  case measure=>simp [intOf];omega
 ·have hi2:¬ (i:Int)<(out2.length:Int):=by omega
  have hie:i=out2.length:=by omega
  rw [hie,List.take_length] at hrow
  obtain ⟨E,hEE⟩:∃ E,out++out2.map toCl=E:=⟨_,rfl⟩
  have HEE:=Lib.hid hEE
  have HEL:E.length≤400000000:=by
   have h1:=HOL.out
   have h2:=HOL2.out
   rw [← hEE,List.length_append,List.length_map]
   omega
  have hsm:∀ x∈E,(-1≤x.2.2.1∧x.2.2.1≤1)∧(-1≤x.2.2.2∧x.2.2.2≤1):=fun x hx=>by
   rw [← hEE] at hx
   rcases List.mem_append.1 hx with h | h
   ·have:=chg_all HSB.out HGP.out HCG.out h
    omega
   ·obtain ⟨y,hy,rfl⟩:=List.mem_map.1 h
    have:=chg_all HSB.out HGP.out HCG2.out hy
    simp only [toCl]
    omega
  rw [hEE] at hrow
  have HFA:=Lib.hid (afaults_any E (by omega) hsm w.heap.size u9 wr hB.out.size hrow.out)
  clear hie hEE hsm hrow hP hA
  go_wp2_with fail
  refine (HFA.out).mono ?_
  rintro e W9 ⟨srt,u,m,c,hp,hs,rfl,hr,hf,hb9⟩
  rw [← HEE.out] at hp
  have HF:=Lib.hid (show TwP S B la lb m c from .inr ⟨HE.out,by rw [← goF_tw HSB.out HGP.out HE.out HCG.out HCG2.out hp hs];exact hf⟩)
  have HR9:=Lib.hid hr
  have HB9:=Lib.hid (hB.out.trans hb9)
  clear hp hs hr hf hb9
  go_wp2
  go_ret2
  exact ⟨_,m,c,rfl,HR9.out,HF.out,HB9.out⟩
end Go.Proofs.YthhfmppealmblaaGreatDoor
namespace Go.Proofs.YthhfmppealmblaaGreatDoor
open Go.RowKit
theorem ticks_mom {l:List Ev} (ha:Asc l):(momI l l.length).map (fun i=>(l.getD i ev0).1)=ticksL [] l:=by
 refine int_asc_ext ?_ (asc_ticksL List.Pairwise.nil) fun t=>?_
 ·have h:=momP_asc (B:=fun _ _=>false) ha (0,0)
  unfold momP at h
  rw [List.pairwise_map] at h ⊢
  exact h
 ·rw [List.mem_map,mem_ticksL]
  constructor
  ·rintro ⟨i,hi,rfl⟩
   have h:=(mem_momI.1 hi).1
   rw [getD_at h]
   exact .inr ⟨_,List.getElem_mem h,rfl⟩
  ·rintro (h | ⟨x,hx,rfl⟩)
   ·cases h
   ·obtain ⟨j,hj,rfl⟩:=List.getElem_of_mem hx
    obtain ⟨hle,hxx⟩:=upN_spec ha l[j].1
    have hjN:=(hxx j hj).2 (Int.le_refl _)
    obtain ⟨i,hi⟩:∃ i,upN l l[j].1=i+1:=⟨upN l l[j].1-1,by omega⟩
    have hil:i<l.length:=by omega
    have h1:=(hxx i hil).1 (by omega)
    have hm:momB l i=true:=by
     by_cases e:i+1=l.length
     ·exact momB_last e
     ·rw [momB_is (by omega),decide_eq_true_iff]
      have h2:¬ l[i+1].1≤l[j].1:=fun q=>by have:=(hxx (i+1) (by omega)).2 q;omega
      omega
    have h3:=ha j i hj hil (by omega)
    exact ⟨i,mem_momI.2 ⟨hil,hm⟩,by rw [getD_at hil];omega⟩
theorem row_formN {W:World} {base:Nat} {t:TypeId} {k n:Nat} {v:Value} {xs:List Value} (h:W.ownsRow base t k v n xs):∃ a c,v = .slice a n c:=by
 rcases h.2 with ⟨rfl,rfl⟩ | ⟨g,cap,cur,rfl,_⟩
 ·exact ⟨_,_,rfl⟩
 ·exact ⟨_,_,rfl⟩
end Go.Proofs.YthhfmppealmblaaGreatDoor
namespace Go.Proofs.YthhfmppealmblaaGreatDoor
open Go.RowKit
def EnR (S:Sp) (l:List Ev) (w:World) (e:Ending) (w':World):Prop:=∃ vk vs vc,e = .returned (.tuple #[.agg #[vk,vs,vc],.int .i64 (audE S l)])∧(audE S l=0→HdRd w' vk vs vc S (onV l))∧(audE S l≠0→vk = .slice none 0 0∧vs = .slice none 0 0∧vc = .slice none 0 0)∧Below w.heap.size w w'
theorem results_cell_row_tmp {P:Program} {fn:Func} {p u:Tmp} {ty:TypeId} (h:fn.results=#[.cell p ty,.tmp u]) (tmps:Array Value) (w:World) (g:Nat) (t:TypeId) (cs:Array Value) (fr:Nat × Nat) (d:TypeDesc)
  (hp:tmps.getD p undef = .pointer (some ⟨g,0,none⟩)) (hg:w.heap[g]?=some (.cells cs t fr))
  (hu:P.underlying ty=some d) (hd:(match d with | .struct _ | .array _ _=>true | _=>false)=true) (hi:(P.info? ty).map (·.size)=some cs.size) :
  (results fn tmps).run P w = .ok (.tuple #[.agg cs,tmps.getD u undef]) w:=by
 have hp':tmps[p]?.getD undef = .pointer (some ⟨g,0,none⟩):=by simpa using hp
 rw [results_cell_tmp h]
 simp [hp',asAddr,run_loadVar_row w g t ty cs fr d hg hu hd hi,Result.andThen]
end Go.Proofs.YthhfmppealmblaaGreatDoor
namespace Go.Proofs.YthhfmppealmblaaGreatDoor
open Go.RowKit
def onI (b:Nat→Bool) (n:Nat):List Int:=((List.range n).filter b).map fun (i:Nat)=>(i:Int)
theorem onI_succ (b:Nat→Bool) (n:Nat):onI b (n+1)=onI b n++if b n=true then [(n:Int)] else []:=by
 unfold onI
 rw [List.range_succ,List.filter_append,List.map_append]
 congr 1
 by_cases h:b n=true
 ·rw [if_pos h,List.filter_cons_of_pos h];rfl
 ·rw [if_neg h,List.filter_cons_of_neg h];rfl
theorem len_onI (b:Nat→Bool) (n:Nat):(onI b n).length≤n:=by
 unfold onI
 rw [List.length_map]
 have:=List.length_filter_le b (List.range n)
 rwa [List.length_range] at this
def OnR (b:Nat→Bool) (n:Nat) (w:World) (e:Ending) (w':World):Prop:=∃ v,e = .returned v∧w'.ownsRow w.heap.size 3 1 v (onI b n).length (iCs (onI b n))∧Below w.heap.size w w'
set_option maxRecDepth 100000 in
set_option maxHeartbeats 12800000 in
theorem on_any (b:Nat→Bool) (n:Nat) (hn:n≤100000) (Bk o c:Nat) (w:World) (hlt:Bk<w.heap.size) (hb:∀ d,d<n→w.cell? ⟨Bk,o+d,none⟩=some (.bool (b d))) :
  Calls Tryz.prog 63 #[.slice (some ⟨Bk,o,none⟩) n c] w (OnR b n w):=by
 obtain ⟨i0,hi0,hz0,hz1,hz2⟩:=info_parts int64_info
 have HB:=Lib.hid hb
 have HL:=Lib.hid hlt
 have HR0:=Lib.hid (show w.ownsRow w.heap.size 3 1 (.slice none 0 0) (onI b 0).length (iCs (onI b 0)) from World.ownsRow_nil _ _ _ _)
 have HW0:=Lib.hid (Below.refl w.heap.size w)
 clear hb hlt
 go_enter Tryz.func63,Tryz.ntmps63
 go_wp2
 go_loopw [3,8] (fun v x wr=>∃ i:Nat,i≤n∧x = .int .i64 i∧RowKit.Hid (wr.ownsRow w.heap.size 3 1 v (onI b i).length (iCs (onI b i)))∧RowKit.Hid (Below w.heap.size w wr)) (fun _ x _=>n-(intOf x).toNat)
 case atStart=>exact ⟨0,Nat.zero_le _,rfl,HR0,HW0⟩
 clear HR0 HW0
 obtain ⟨i,hi,rfl,hrow,hW⟩:=hrel
 by_cases hin:i<n
 ·have hi2:(i:Int)<(n:Int):=by omega
  have q0:=(hW.out.cell HL.out).trans (HB.out i hin)
  have HS:=Lib.hid (onI_succ b i)
  have hll:=len_onI b i
  have hsz:=hW.out.size
  obtain ⟨L,hL⟩:∃ L,onI b i=L:=⟨_,rfl⟩
  rw [hL] at hrow HS hll
  cases hbi:b i with
  | false =>
   rw [hbi] at q0 HS
   have HS2:=Lib.hid (show onI b (i+1)=L by rw [HS.out];simp)
   clear hL HS hbi
   go_wp2
   go_roundw
   case rel=>exact ⟨i+1,by omega,by go_num,by rw [HS2.out];exact hrow,hW⟩
   case measure=>simp [intOf];omega
  | true =>
   rw [hbi] at q0 HS
   have HS2:=Lib.hid (show onI b (i+1)=L++[(i:Int)] by rw [HS.out];simp)
   clear hL HS hbi
   go_wp2_with (at_builtin;refine wpList_append_lies _ rfl _ _ 68 rfl w.heap.size 3 i0 _ 1 8 Tryz.underlying68 hi0 hz0 hz1 hz2 rfl (by omega) _ _ _ rfl (hrow.out.alloc _) ⟨wr.heap.size,0,none⟩ 1 1 [.int .i64 i] rfl rfl (World.news_of_block (cs:=#[.int .i64 i]) (t:=3) (fr:=(0,0)) (heap_alloc_new wr _)) (by simp [Value.oneCell']) (by omega) (by unfold maxLen;omega) (by omega) (by simp;omega) (wr.heap.size+1) (by simp) ?_;intro gg cap w3 hown3 hgrow hat3 hlt3)
   have HR3:=Lib.hid (show w3.ownsRow w.heap.size 3 1 (.slice (some ⟨gg,0,none⟩) (L.length+1) cap) (L++[(i:Int)]).length (iCs (L++[(i:Int)])) by rw [iCs_snoc,List.length_append,List.length_singleton];exact hown3)
   have HB3:=Lib.hid (push_low hW.out hrow.out hgrow)
   clear hown3 hgrow hat3 hlt3 q0
   go_wp2
   go_roundw
   case rel=>exact ⟨i+1,by omega,by go_num,by rw [HS2.out];exact HR3,HB3⟩
   case measure=>simp [intOf];omega
 ·have hi2:¬ (i:Int)<(n:Int):=by omega
  have hie:i=n:=by omega
  rw [hie] at hrow
  clear hie
  go_wp2
  go_ret
  exact ⟨_,rfl,hrow.out,hW.out⟩
end Go.Proofs.YthhfmppealmblaaGreatDoor
namespace Go.Proofs.YthhfmppealmblaaGreatDoor
open Go.RowKit
structure EkI (wr:World) (X:Nat) (v1 v2:Value) (L1 L2:List Int) (G:Nat→List Int) (g:Nat→Value) (i:Nat) (vk:Value) (A:World):Prop where
 bx:Blk A X 70 #[vk,v1,v2]
 r1:A.ownsRow wr.heap.size 3 1 v1 L1.length (iCs L1)
 r2:A.ownsRow wr.heap.size 3 1 v2 L2.length (iCs L2)
 ks:A.ownsRow wr.heap.size 68 1 vk i ((List.range i).map g)
 rs:∀ d,d<i→A.ownsRow wr.heap.size 3 1 (g d) (G d).length (iCs (G d))
 be:Below wr.heap.size wr A
 ge:wr.heap.size≤X
theorem EkI.later {wr:World} {X:Nat} {v1 v2:Value} {L1 L2:List Int} {G:Nat→List Int} {g:Nat→Value} {i:Nat} {vk:Value} {A A':World} (h:EkI wr X v1 v2 L1 L2 G g i vk A) (hb:Below A.heap.size A A'):EkI wr X v1 v2 L1 L2 G g i vk A' :=
 ⟨h.bx.below hb,row_later h.r1 hb,row_later h.r2 hb,row_later h.ks hb,fun d hd=>row_later (h.rs d hd) hb,below_step h.be hb,h.ge⟩
theorem EkI.rdG {wr:World} {X Y:Nat} {v1 v2:Value} {g:Nat→Value} {vk:Value} {A A':World} {S:Sp} {f:Th→Int} (h:EkI wr X v1 v2 (onL f 2 S.ss.length) (onL f 3 S.cs.length) (fun d=>playedL f d) g S.ds.length vk A) (hg:A.grownBy A' (some Y)) (hY:Y<wr.heap.size):HdRd A' vk v1 v2 S f:=by
 have hk:∀ {t:TypeId} {n:Nat} {u:Value} {xs:List Value},A.ownsRow wr.heap.size t 1 u n xs→A'.ownsRow wr.heap.size t 1 u n xs:=fun hu=>hu.kept hg (.inr fun e=>by have:=row_ge hu e;omega)
 have e:∀ l:List Nat,(l.map fun d=>[g d]).flatten=l.map g:=fun l=>by
  induction l with
  | nil=>rfl
  | cons a l ih=>simp [ih]
 have hks:=hk h.ks
 exact ⟨⟨g,ARd.of_row (rows:=(List.range S.ds.length).map fun d=>[g d]) (by intro r hr;obtain ⟨d,_,rfl⟩:=List.mem_map.1 hr;rfl) (by
  rw [e,List.length_map,List.length_range]
  exact hks),fun d hd=>ARd.of_ints (hk (h.rs d hd))⟩,ARd.of_ints (hk h.r1),ARd.of_ints (hk h.r2)⟩
theorem EkI.rd {wr:World} {X:Nat} {v1 v2:Value} {g:Nat→Value} {vk:Value} {A:World} {S:Sp} {f:Th→Int} (h:EkI wr X v1 v2 (onL f 2 S.ss.length) (onL f 3 S.cs.length) (fun d=>playedL f d) g S.ds.length vk A):HdRd A vk v1 v2 S f :=
 ⟨⟨g,ARd.of_row (rows:=(List.range S.ds.length).map fun d=>[g d]) (by intro r hr;obtain ⟨d,_,rfl⟩:=List.mem_map.1 hr;rfl) (by
  have e:∀ l:List Nat,(l.map fun d=>[g d]).flatten=l.map g:=fun l=>by
   induction l with
   | nil=>rfl
   | cons a l ih=>simp [ih]
  rw [e,List.length_map,List.length_range]
  exact h.ks),fun d hd=>ARd.of_ints (h.rs d hd)⟩,ARd.of_ints h.r1,ARd.of_ints h.r2⟩
end Go.Proofs.YthhfmppealmblaaGreatDoor
