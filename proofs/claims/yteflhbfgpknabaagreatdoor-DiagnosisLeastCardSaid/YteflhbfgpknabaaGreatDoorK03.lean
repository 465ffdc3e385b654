/-
  A part of the proof: RD,RE.
-/
import Derived.Test.YteflhbfgpknabaaGreatDoorK01
import Derived.Test.YteflhbfgpknabaaGreatDoorL26
import Derived.Test.YteflhbfgpknabaaGreatDoorK02
set_option maxRecDepth 100000
set_option maxHeartbeats 12800000
namespace Go.Proofs.YteflhbfgpknabaaGreatDoor
open Go.Lib (hid)
open Go.RowKit Go.Shelf
def SuP (S:Sp) (f:List Ft) (i:Nat):Prop:=(f++(allFt S).drop i).Sublist (allFt S)
theorem SuP.ok {S:Sp} {f:List Ft} {i:Nat} (h:SuP S f i):∀ x∈f,ftOk S x=true:=fun _ hx=>mem_allFt.1 (h.subset (List.mem_append_left _ hx))
theorem SuP.len {S:Sp} {f:List Ft} {i:Nat} (h:SuP S f i):f.length≤(allFt S).length:=Nat.le_trans (by rw [List.length_append];omega) h.length_le
theorem SuP.to {S:Sp} {f:List Ft} {i j:Nat} (h:SuP S f i) (hij:i≤j):SuP S f j :=
 ((List.Sublist.refl f).append (List.drop_sublist_drop_left _ hij)).trans h
theorem SuP.more {S:Sp} {f:List Ft} {i:Nat} (h:SuP S f i) (hi:i<(allFt S).length):SuP S (f++[(allFt S)[i]]) (i+1):=by
 unfold SuP at h ⊢
 rw [List.drop_eq_getElem_cons hi] at h
 rwa [List.append_assoc,List.singleton_append]
theorem fresh_below (W:World) (o:Obj):Below W.heap.size W (W.alloc o):=(Below.refl _ _).alloc (Nat.le_refl _) _
theorem suP_nil (S:Sp):SuP S [] 0:=List.Sublist.refl _
def SeO (w0:World) (v1 v2 v3 v4:Value) (O:List (List Ft)) (v:Value) (z:World):Prop:=(∃ g,StO w0.heap.size z v O g)∧Blk z w0.heap.size 27 #[v1,v2,v3,v4]∧Below w0.heap.size w0 z
theorem SeO.later {w0 z z':World} {v1 v2 v3 v4 v:Value} {O:List (List Ft)} (h:SeO w0 v1 v2 v3 v4 O v z) (hb:Below z.heap.size z z'):SeO w0 v1 v2 v3 v4 O v z':=by
 obtain ⟨⟨g,h1⟩,h2,h3⟩:=h
 exact ⟨⟨g,h1.later hb⟩,h2.below hb,below_step h3 hb⟩
theorem SeO.put {w0 z z':World} {v1 v2 v3 v4 v v':Value} {O O':List (List Ft)} {g:Nat→Value} (h:SeO w0 v1 v2 v3 v4 O v z) (hs:StO w0.heap.size z' v' O' g) (hg:z.grownBy z' v.ownBlock):SeO w0 v1 v2 v3 v4 O' v' z':=by
 obtain ⟨⟨g0,h1⟩,h2,h3⟩:=h
 exact ⟨⟨g,hs⟩,h2.grown hg (fun e=>row_not h1.row h2 (by decide) e),h3.grown hg h3.size (fun _ e=>row_ge h1.row e)⟩
def StsE (S:Sp) (B:(Th→Int)→Pp→Bool) (T:List Tr) (q i:Nat) (f:List Ft) (W:World) (e:Ending) (W':World):Prop:=∃ v g,e = .returned v∧StO W.heap.size W' v (stF S B T ((allFt S).drop i) q f) g∧Below W.heap.size W W'
def SeC (w:World) (v1 v2 v3 v4 tv lv:Value) (S:Sp) (B:(Th→Int)→Pp→Bool) (T:List Tr) (many q:Nat):Prop :=
 ∀ (f:List Ft) (i:Nat) (fv:Value) (W:World),f.length+q=many→SuP S f i→i≤(allFt S).length→Below w.heap.size w W→ARd W fv 3 (f.map ftC) →
  Calls Tryz.prog 56 #[.agg #[v1,v2,v3,v4],tv,lv,fv,.int .i64 i,.int .i64 many] W (StsE S B T q i f W)
theorem seO_ret {S:Sp} {B:(Th→Int)→Pp→Bool} {T:List Tr} {q i:Nat} {f:List Ft} {W z:World} {v1 v2 v3 v4 v:Value} {O:List (List Ft)} (h:SeO W v1 v2 v3 v4 O v z) (e:stF S B T ((allFt S).drop i) q f=O):StsE S B T q i f W (.returned v) z:=by
 obtain ⟨⟨g,h1⟩,_,h3⟩:=h
 exact ⟨v,g,rfl,e ▸ h1,h3⟩
theorem ft_one {W:World} {b:Nat} {x:Ft} (h:Blk W b 74 #[.int .i64 x.1,.int .i64 x.2.1,.int .i64 x.2.2]):ARd W (.slice (some ⟨b,0,none⟩) 1 1) 3 ([x].map ftC) :=
 ard_of_blk (k:=3) h (by intro r hr;rw [List.mem_singleton.1 hr];rfl) rfl _ _ rfl
theorem sets30_zero (v1 v2 v3 v4:Value) (S:Sp) (ok:SpWk S) (hc:(checkP S).2=0) (fp:Nat→Value) (L:List Tl) (hL:∀ t∈L,HnOk S t.h) (hll:L.length≤1000000) (tv lv:Value) (gk gs gc gh:Nat→Value) (B:(Th→Int)→Pp→Bool) (hB:SndIs S B) (many:Nat) (w:World) (hsp:SpRd w v1 v2 v3 v4 fp S) (htv:TlRd w tv L gk gs gc gh) (hfew:(allFt S).length≤20):SeC w v1 v2 v3 v4 tv lv S B (trs L) many 0:=by
 intro f i fv W hq hsu hi hbw hfv
 obtain ⟨at',ct,ev⟩:=htv.form
 subst ev
 obtain ⟨af,cf,ev⟩:=hfv.ftForm
 subst ev
 have hfl:f.length≤20:=Nat.le_trans hsu.len hfew
 have HCO:=hid (fun (z:World) (hb:Below W.heap.size W z)=>contra30_any f (.slice af f.length cf) z (fun x hx=>ftOk_kind (hsu.ok x hx)) (by omega) (hfv.later hb))
 have HFA:=hid (fun (z:World) (hb:Below W.heap.size W z)=>fails30_any v1 v2 v3 v4 S ok hc fp (.slice af f.length cf) f hsu.ok (by omega) L hL hll (.slice at' L.length ct) gk gs gc gh B hB z (hsp.later (below_step hbw hb)) (htv.later (below_step hbw hb)) (hfv.later hb))
 have HFV:=hid (fun (z:World) (hb:Below W.heap.size W z)=>hfv.later hb)
 have HOK:=hid (okB_is (S:=S) (B:=B) (L:=L) (f:=f))
 have HZE:=hid (stF_zero (S:=S) (B:=B) (T:=trs L) (l:=(allFt S).drop i) (f:=f))
 have HS0:=hid (show SeO W v1 v2 v3 v4 [] (.slice none 0 0) (W.alloc (.cells #[v1,v2,v3,v4] 27)) from ⟨⟨_,StO.nil _ _⟩,Blk.new _ _ _,(Below.refl _ _).alloc (Nat.le_refl _) _⟩)
 have q1:((f.length:Int)==(many:Int))=true:=by rw [beq_iff_eq];omega
 have q2:(f.length==many)=true:=by rw [beq_iff_eq];omega
 clear hsu hbw hfv ok hc hL hB hsp htv hfew hi hq
 go_enter Tryz.func56,Tryz.ntmps56
 go_upto_region 2 with fail
 clear q1 q2
 generalize W.alloc (.cells #[v1,v2,v3,v4] 27)=W0 at *
 obtain ⟨s0,s1,s2,s3⟩:=HS0.out.2.1.four
 go_wp2_with fail
 refine (HCO.out _ HS0.out.2.2).mono ?_
 rintro e W1 ⟨rfl,hb1⟩
 have HS1:=hid (HS0.out.later hb1)
 clear HS0 HCO hb1 s0 s1 s2 s3
 obtain ⟨cb,hcb⟩:∃ cb,conB f=cb:=⟨_,rfl⟩
 rw [hcb] at HOK ⊢
 clear hcb
 cases cb with
 | true =>
  have HE:=hid (seO_ret (S:=S) (B:=B) (T:=trs L) (q:=0) (i:=i) (f:=f) HS1.out (by rw [HZE.out,if_neg (by rw [HOK.out];simp)]))
  clear HZE HOK
  go_wp2
  go_ret
  exact HE.out
 | false =>
 obtain ⟨s0,s1,s2,s3⟩:=HS1.out.2.1.four
 go_wp2_with fail
 refine (HFA.out _ HS1.out.2.2).mono ?_
 rintro e W2 ⟨rfl,hb2⟩
 have HS2:=hid (HS1.out.later hb2)
 clear HS1 HFA hb2 s0 s1 s2 s3
 obtain ⟨n,hn⟩:∃ n,failI S B f L=n:=⟨_,rfl⟩
 rw [hn] at HOK ⊢
 clear hn
 by_cases hneg:n<0
 case neg =>
  have d1:decide (n<0)=false:=decide_eq_false hneg
  have HE:=hid (seO_ret (S:=S) (B:=B) (T:=trs L) (q:=0) (i:=i) (f:=f) HS2.out (by rw [HZE.out,if_neg (by rw [HOK.out,d1];simp)]))
  clear HZE HOK hneg
  go_wp2
  go_ret
  exact HE.out
 have d1:decide (n<0)=true:=decide_eq_true hneg
 have HOK2:=hid (show okB S B (trs L) f=true by rw [HOK.out,d1];rfl)
 clear HOK hneg
 have hbx:=fresh_below W2 (.cells #[] 74)
 obtain ⟨V',W3,hr1,ho1,hg1⟩:=append_fts (W2.alloc (.cells #[] 74)) W.heap.size (.slice (some ⟨W2.heap.size,0,none⟩) 0 0) [] (fts_none W2 W.heap.size HS2.out.2.2.size) (.slice af f.length cf) f (HFV.out _ (below_step HS2.out.2.2 hbx)) (by rw [List.length_nil];omega) (below_step HS2.out.2.2 hbx).size
 rw [List.nil_append] at ho1
 have hb3:Below W.heap.size W W3:=(below_step HS2.out.2.2 hbx).grown hg1 (below_step HS2.out.2.2 hbx).size (fun k e=>by cases e;exact HS2.out.2.2.size)
 obtain ⟨va,vc,rfl⟩:=own_form ho1
 have HB4:=hid (below_step hb3 (fresh_below W3 (.cells #[.slice va f.length vc] 28)))
 have HST:=hid (sto_one ho1 hb3.size)
 have HR1:=hid hr1
 clear hbx ho1 hg1 hb3 hr1
 have hr1:=HR1.out
 clear HR1
 go_wp2_with (at_builtin;refine Lib.wpList_append_run _ rfl _ _ _ _ rfl _ _ rfl rfl _ _ hr1 ?_)
 go_ret
 exact ⟨_,_,rfl,by rw [HZE.out,if_pos HOK2.out];exact HST.out,HB4.out⟩
theorem sets30_succ (v1 v2 v3 v4:Value) (S:Sp) (L:List Tl) (tv lv:Value) (B:(Th→Int)→Pp→Bool) (many q:Nat) (hmn:many≤3) (w:World) (hlv:ARd w lv 3 ((allFt S).map ftC)) (hfew:(allFt S).length≤20) (ih:SeC w v1 v2 v3 v4 tv lv S B (trs L) many q):SeC w v1 v2 v3 v4 tv lv S B (trs L) many (q+1):=by
 intro f i fv W hq hsu hi hbw hfv
 obtain ⟨al,cl,ev⟩:=hlv.ftForm
 subst ev
 obtain ⟨af,cf,ev⟩:=hfv.ftForm
 subst ev
 have hfl:f.length≤20:=Nat.le_trans hsu.len hfew
 obtain ⟨l,hl⟩:∃ l,allFt S=l:=⟨_,rfl⟩
 have HIH:=hid (show ∀ (j:Nat) (hj:j<l.length),i≤j→∀ (u:Value) (z:World),Below W.heap.size W z→ARd z u 3 ((f++[l[j]]).map ftC)→Calls Tryz.prog 56 #[.agg #[v1,v2,v3,v4],tv,.slice al l.length cl,u,.int .i64 ((j+1:Nat):Int),.int .i64 many] z (StsE S B (trs L) q (j+1) (f++[l[j]]) z) from by
  subst hl
  exact fun j hj hij u z hb hu=>ih (f++[(allFt S)[j]]) (j+1) u z (by rw [List.length_append,List.length_singleton];omega) ((hsu.to hij).more hj) hj (below_step hbw hb) hu)
 have HFV:=hid (fun (z:World) (hb:Below W.heap.size W z)=>hfv.later hb)
 have HLV:=hid (fun (z:World) (hb:Below W.heap.size W z)=>hlv.later (below_step hbw hb))
 have HS0:=hid (show SeO W v1 v2 v3 v4 [] (.slice none 0 0) (W.alloc (.cells #[v1,v2,v3,v4] 27)) from ⟨⟨_,StO.nil _ _⟩,Blk.new _ _ _,(Below.refl _ _).alloc (Nat.le_refl _) _⟩)
 have HSL:=hid (fun (k:Nat) (g:List Ft) (j:Nat)=>stF_len (S:=S) (B:=B) (T:=trs L) (l:=(allFt S).drop j) (q:=k) (f:=g) (by rw [List.length_drop];omega))
 have q1:((f.length:Int)==(many:Int))=false:=by rw [beq_eq_false_iff_ne];omega
 have q2:(f.length==many)=false:=by rw [beq_eq_false_iff_ne];omega
 have HQ3:=hid (show q≤3 by omega)
 have HO0:=hid (show stF S B (trs L) (l.drop i) (q+1) f=[]++stF S B (trs L) (l.drop i) (q+1) f from rfl)
 have HRT:=hid (fun (O:List (List Ft)) (v:Value) (z:World) (h:SeO W v1 v2 v3 v4 O v z) (e:stF S B (trs L) (l.drop i) (q+1) f=O)=>seO_ret (S:=S) (B:=B) (T:=trs L) (q:=q+1) (i:=i) (f:=f) h (by rw [hl];exact e))
 have HTO:=hid (fun (r:Nat) (g:List Ft) (j:Nat) (W:World) (e:Ending) (z:World) (h:StsE S B (trs L) r j g W e z)=>show ∃ v g',e = .returned v∧StO W.heap.size z v (stF S B (trs L) (l.drop j) r g) g'∧Below W.heap.size W z from by rw [← hl];exact h)
 rw [hl] at hi HSL
 rw [hl] at HLV hfew
 rw [hl]
 have HFW:=hid hfew
 clear hl hsu hbw hfv hlv ih hq hfew
 go_enter Tryz.func56,Tryz.ntmps56
 go_upto_region 2 with fail
 go_wp2
 clear q1 q2
 generalize W.alloc (.cells #[v1,v2,v3,v4] 27)=W0 at *
 go_loopw [13,14] (fun o x wr=>∃ (j:Nat) (O:List (List Ft)),i≤j∧j≤l.length∧x = .int .i64 j∧O.length≤1000000 * j∧Hid (stF S B (trs L) (l.drop i) (q+1) f=O++stF S B (trs L) (l.drop j) (q+1) f)∧Hid (SeO W v1 v2 v3 v4 O o wr)) (fun _ x _=>l.length-(intOf x).toNat)
 case atStart=>exact ⟨i,[],Nat.le_refl _,hi,rfl,Nat.zero_le _,HO0,HS0⟩
 clear HO0 HS0
 obtain ⟨j,O,hij,hj,rfl,hOl,hO,hS⟩:=hrel
 have hl20:=HFW.out
 by_cases hjl:j<l.length
 ·have j1:(j:Int)<(l.length:Int):=by omega
  have j6:IntKind.i64.wrap ((j:Int)+1)=(j:Int)+1:=IntWalk.i64_in _ (by omega)
  obtain ⟨bl,ol,c',ev,_,y0,y1,y2⟩:=(HLV.out wr hS.out.2.2).ftAt j hjl
  cases ev
  have HIJ:=hid (HIH.out j hjl hij)
  have HAT:=hid (stF_at (S:=S) (B:=B) (T:=trs L) (q:=q) (f:=f) hjl)
  obtain ⟨⟨x1,x2,x3⟩,hx⟩:∃ x,l[j]=x:=⟨_,rfl⟩
  rw [hx] at y0 y1 y2 HIJ HAT
  simp only at y0 y1 y2
  have HYC:=hid (fun (z:World) (hb:Below wr.heap.size wr z)=>show z.cell? ⟨bl,ol+j * 3,none⟩=some (.int .i64 x1)∧z.cell? ⟨bl,ol+j * 3+1,none⟩=some (.int .i64 x2)∧z.cell? ⟨bl,ol+j * 3+2,none⟩=some (.int .i64 x3) from ⟨(hb.cell (cell_size y0)).trans y0,(hb.cell (cell_size y1)).trans y1,(hb.cell (cell_size y2)).trans y2⟩)
  have j0:(0:Int)≤(j:Int):=by omega
  clear hx y0 y1 y2
  obtain ⟨ao,co,rfl⟩:=own_form hS.out.1.choose_spec.row
  go_upto_region 9 with fail
  have hmxx:Tryz.prog.follows .mixedOrders=true:=by kernel_rfl
  refine wp_normal (wp_region_flowN (fun xX=>{ tmps:=#[.agg #[v1,v2,v3,v4],tv,.slice (some ⟨bl,ol,none⟩) l.length cl,.slice af f.length cf,.int .i64 (i:Int),.int .i64 (many:Int),.pointer (some ⟨W.heap.size,0,none⟩),undef,undef,undef,undef,undef,.slice none 0 0,(xX 13),.int .i64 (j:Int),.slice af f.length cf,.int .i64 (f.length:Int),.int .i64 (many:Int),.bool false,undef,undef,undef,undef,undef,undef,undef,undef,undef,undef,undef,undef,undef,undef,.int .i64 (i:Int),.int .i64 (j:Int),.slice (some ⟨bl,ol,none⟩) l.length cl,.int .i64 (l.length:Int),.bool true,u38,u39,(xX 40),(xX 41),(xX 42),(xX 43),(xX 44),(xX 45),(xX 46),(xX 47),(xX 48),(xX 49),(xX 50),(xX 51),(xX 52),(xX 53),(xX 54),(xX 55),(xX 56),(xX 57),undef],defers:=[] }) (fun iI v z=>match iI with
   | 0=>v = .slice ao O.length co
   | 1=>v = .agg #[v1,v2,v3,v4]
   | 2=>v=tv
   | 3=>v = .slice (some ⟨bl,ol,none⟩) l.length cl
   | 4=>∃ a2,v = .slice (some ⟨a2,0,none⟩) 0 0∧Blk z a2 74 #[]∧wr.heap.size≤a2
   | 5=>v = .slice af f.length cf
   | 6=>∃ V1,v=V1∧z.ownsRow wr.heap.size 74 3 V1 f.length (ftCs f)
   | 7=>v = .slice (some ⟨bl,ol,none⟩) l.length cl
   | 8=>v = .int .i64 (j:Int)
   | 9=>v = .pointer (some ⟨bl,ol+j * 3,none⟩)
   | 10=>v = .agg #[.int .i64 x1,.int .i64 x2,.int .i64 x3]
   | 11=>∃ b4,v = .slice (some ⟨b4,0,none⟩) 1 1∧Blk z b4 74 #[.int .i64 x1,.int .i64 x2,.int .i64 x3]
   | 12=>∃ V2,v=V2∧z.ownsRow wr.heap.size 74 3 V2 (f++[(x1,x2,x3)]).length (ftCs (f++[(x1,x2,x3)]))
   | 13=>v = .int .i64 (j:Int)
   | 14=>v = .int .i64 ((j:Int)+1)
   | 15=>v = .int .i64 (many:Int)
   | 16=>∃ V3,v=V3∧∃ g3,StO wr.heap.size z V3 (stF S B (trs L) (l.drop (j+1)) q (f++[(x1,x2,x3)])) g3
   | 17=>∃ V4,v=V4∧SeO W v1 v2 v3 v4 (O++stF S B (trs L) (l.drop (j+1)) q (f++[(x1,x2,x3)])) V4 z
   | 18=>True
   | _=>True) [(6,4),(6,5),(9,7),(9,8),(10,9),(11,10),(12,6),(12,11),(14,13),(16,1),(16,2),(16,3),(16,12),(16,14),(16,15),(17,0),(17,16),(18,17)] (JD 18 13 (.slice ao O.length co) (JA 17 18 wr (fun xX z=>∃ V4,xX 13=V4∧SeO W v1 v2 v3 v4 (O++stF S B (trs L) (l.drop (j+1)) q (f++[(x1,x2,x3)])) V4 z))) (fun n=>(#[.agg #[v1,v2,v3,v4],tv,.slice (some ⟨bl,ol,none⟩) l.length cl,.slice af f.length cf,.int .i64 (i:Int),.int .i64 (many:Int),.pointer (some ⟨W.heap.size,0,none⟩),undef,undef,undef,undef,undef,.slice none 0 0,.slice ao O.length co,.int .i64 (j:Int),.slice af f.length cf,.int .i64 (f.length:Int),.int .i64 (many:Int),.bool false,undef,undef,undef,undef,undef,undef,undef,undef,undef,undef,undef,undef,undef,undef,.int .i64 (i:Int),.int .i64 (j:Int),.slice (some ⟨bl,ol,none⟩) l.length cl,.int .i64 (l.length:Int),.bool true,u38,u39,u40,u41,u42,u43,u44,u45,u46,u47,u48,u49,u50,u51,u52,u53,u54,u55,u56,u57,undef]:Array Value).getD n undef) rfl hmxx (by kernel_rfl) (by kernel_rfl) (by kernel_rfl) (jd_start (ja_start (of_decide_eq_true (by kernel_rfl))) rfl) (jd_cong (of_decide_eq_true (by kernel_rfl)) (fun ℓ ℓ' xX w h hj=>ja_cong (of_decide_eq_true (by kernel_rfl)) (of_decide_eq_true (by kernel_rfl)) ℓ ℓ' xX w h hj)) ?put ?step ?done)
  case put =>
   intro iI oO dD ho hd xX vV
   match iI,ho with
   | 0,ho | 1,ho | 2,ho | 3,ho | 4,ho | 5,ho | 6,ho | 7,ho | 8,ho | 9,ho | 10,ho | 11,ho | 12,ho | 13,ho | 14,ho | 15,ho | 16,ho | 17,ho | 18,ho => obtain rfl:=oj ho;obtain rfl:=oj hd;rfl
   | n+19,ho=>exact absurd (Array.getElem?_eq_some_iff.1 ho).1 (by simp)
  case step =>
   intro iI oO ho ℓ xX z hj hli hup hdl hdep K hK
   match iI,ho with
   | 0,ho =>
    obtain rfl:=oj ho
    have hls:ℓ 18=false:=hup 12 18 (by kernel_rfl)
    have hPl:=fun (vv:Value) w' (hb:Below z.heap.size z w')=>jd_plain (i:=0) hj (ja_plain (i:=0) (x':=putX xX (some 40) vv) hj.1 (by decide) (by decide) hls hb) (by decide) rfl
    clear hdep ho hup
    dsimp only at hK ⊢
    simp only [(show xX 13=_ from hj.2 hls)] at hK ⊢
    refine wpOp_step rfl (fun K2 hK2=>?_)
    go_simp
    exact hK2 _ _ (hK _ _ (hPl _ _ (Below.refl _ _)) (fun _ _ _ _ h=>h) rfl)
   | 1,ho =>
    obtain rfl:=oj ho
    have hls:ℓ 18=false:=hup 12 18 (by kernel_rfl)
    have hPl:=fun (vv:Value) w' (hb:Below z.heap.size z w')=>jd_plain (i:=1) hj (ja_plain (i:=1) (x':=putX xX (some 41) vv) hj.1 (by decide) (by decide) hls hb) (by decide) rfl
    have hz:=hj.1.1 (hup 12 17 (by kernel_rfl))
    obtain ⟨s0,s1,s2,s3⟩:=(hS.out.later hz).2.1.four
    clear hdep ho hup
    dsimp only at hK ⊢
    refine wpOp_step rfl (fun K2 hK2=>?_)
    go_simp
    exact hK2 _ _ (hK _ _ (hPl _ _ (Below.refl _ _)) (fun _ _ _ _ h=>h) rfl)
   | 2,ho =>
    obtain rfl:=oj ho
    have hls:ℓ 18=false:=hup 12 18 (by kernel_rfl)
    have hPl:=fun (vv:Value) w' (hb:Below z.heap.size z w')=>jd_plain (i:=2) hj (ja_plain (i:=2) (x':=putX xX (some 42) vv) hj.1 (by decide) (by decide) hls hb) (by decide) rfl
    clear hdep ho hup
    dsimp only at hK ⊢
    refine wpOp_step rfl (fun K2 hK2=>?_)
    go_simp
    exact hK2 _ _ (hK _ _ (hPl _ _ (Below.refl _ _)) (fun _ _ _ _ h=>h) rfl)
   | 3,ho =>
    obtain rfl:=oj ho
    have hls:ℓ 18=false:=hup 12 18 (by kernel_rfl)
    have hPl:=fun (vv:Value) w' (hb:Below z.heap.size z w')=>jd_plain (i:=3) hj (ja_plain (i:=3) (x':=putX xX (some 43) vv) hj.1 (by decide) (by decide) hls hb) (by decide) rfl
    clear hdep ho hup
    dsimp only at hK ⊢
    refine wpOp_step rfl (fun K2 hK2=>?_)
    go_simp
    exact hK2 _ _ (hK _ _ (hPl _ _ (Below.refl _ _)) (fun _ _ _ _ h=>h) rfl)
   | 4,ho =>
    obtain rfl:=oj ho
    have hls:ℓ 18=false:=hup 12 18 (by kernel_rfl)
    have hPl:=fun (vv:Value) w' (hb:Below z.heap.size z w')=>jd_plain (i:=4) hj (ja_plain (i:=4) (x':=putX xX (some 44) vv) hj.1 (by decide) (by decide) hls hb) (by decide) rfl
    have hz:=hj.1.1 (hup 12 17 (by kernel_rfl))
    clear hdep ho hup
    dsimp only at hK ⊢
    refine wpOp_step rfl (fun K2 hK2=>?_)
    go_simp
    have hb:Below z.heap.size z (z.alloc (.cells #[] 74)):=fresh_below _ _
    refine hK2 _ _ (hK _ _ (hPl _ _ hb) ?_ ⟨z.heap.size,rfl,Blk.new z _ _,hz.size⟩)
    intro jj v' hlj hp h
    match jj,hlj,hp,h with
    | 0,hlj,hp,h=>exact h
    | 1,hlj,hp,h=>exact h
    | 2,hlj,hp,h=>exact h
    | 3,hlj,hp,h=>exact h
    | 4,hlj,hp,h=>obtain ⟨a,e,h1,h2⟩:=h;exact ⟨a,e,h1.below hb,h2⟩
    | 5,hlj,hp,h=>exact h
    | 6,hlj,hp,h=>obtain ⟨V,e,h⟩:=h;exact ⟨V,e,row_later h hb⟩
    | 7,hlj,hp,h=>exact h
    | 8,hlj,hp,h=>exact h
    | 9,hlj,hp,h=>exact h
    | 10,hlj,hp,h=>exact h
    | 11,hlj,hp,h=>obtain ⟨b,e,h⟩:=h;exact ⟨b,e,h.below hb⟩
    | 12,hlj,hp,h=>obtain ⟨V,e,h⟩:=h;exact ⟨V,e,row_later h hb⟩
    | 13,hlj,hp,h=>exact h
    | 14,hlj,hp,h=>exact h
    | 15,hlj,hp,h=>exact h
    | 16,hlj,hp,h=>obtain ⟨V,e,g3,h⟩:=h;exact ⟨V,e,g3,h.later hb⟩
    | 17,hlj,hp,h=>obtain ⟨V,e,h⟩:=h;exact ⟨V,e,h.later hb⟩
    | 18,hlj,hp,h=>exact h
    | _+19,_,_,_=>trivial
   | 5,ho =>
    obtain rfl:=oj ho
    have hls:ℓ 18=false:=hup 12 18 (by kernel_rfl)
    have hPl:=fun (vv:Value) w' (hb:Below z.heap.size z w')=>jd_plain (i:=5) hj (ja_plain (i:=5) (x':=putX xX (some 45) vv) hj.1 (by decide) (by decide) hls hb) (by decide) rfl
    clear hdep ho hup
    dsimp only at hK ⊢
    refine wpOp_step rfl (fun K2 hK2=>?_)
    go_simp
    exact hK2 _ _ (hK _ _ (hPl _ _ (Below.refl _ _)) (fun _ _ _ _ h=>h) rfl)
   | 6,ho =>
    obtain rfl:=oj ho
    have h4:∃ a2,xX 44 = .slice (some ⟨a2,0,none⟩) 0 0∧Blk z a2 74 #[]∧wr.heap.size≤a2:=hdep 4 (by kernel_rfl) _ _ rfl rfl
    obtain ⟨a2,q4,k4,l4⟩:=h4
    have q5:xX 45 = .slice af f.length cf:=hdep 5 (by kernel_rfl) _ _ rfl rfl
    have hls:ℓ 18=false:=hup 12 18 (by kernel_rfl)
    have hPl:=fun (vv:Value) w' (hb:Below z.heap.size z w')=>jd_plain (i:=6) hj (ja_plain (i:=6) (x':=putX xX (some 46) vv) hj.1 (by decide) (by decide) hls hb) (by decide) rfl
    have hz:=hj.1.1 (hup 12 17 (by kernel_rfl))
    have n12:=hup 12 12 (by kernel_rfl)
    have n16:=hup 12 16 (by kernel_rfl)
    have n17:=hup 12 17 (by kernel_rfl)
    clear hdep ho hup
    dsimp only at hK ⊢
    simp only [q4,q5] at hK ⊢
    refine wpOp_step rfl (fun K2 hK2=>?_)
    obtain ⟨V9,z1,hr,ho,hg⟩:=append_fts z wr.heap.size (Value.slice (some ⟨a2,0,none⟩) 0 0) [] (blk_row0 (k:=3) k4 l4) (.slice af f.length cf) f (HFV.out z (below_step hS.out.2.2 hz)) (by rw [List.length_nil];omega) hz.size
    rw [List.nil_append] at ho
    have hb9:Below wr.heap.size wr z1:=hz.grown hg hz.size (fun _ e=>row_ge (blk_row0 (k:=3) k4 l4) e)
    refine step_appendK rfl _ _ 28 28 rfl (Value.slice (some ⟨a2,0,none⟩) 0 0) (.slice af f.length cf) (by simp [Act.eval]) (by simp [Act.eval]) hr ?_
    refine hK2 _ _ (hK _ _ (jd_plain (i:=6) hj (ja_keep (i:=6) (x':=putX xX (some 46) V9) (by decide) hls hb9) (by decide) rfl) ?_ ⟨V9,rfl,ho⟩)
    intro jj v' hlj hp h
    match jj,hlj,hp,h with
    | 0,hlj,hp,h=>exact h
    | 1,hlj,hp,h=>exact h
    | 2,hlj,hp,h=>exact h
    | 3,hlj,hp,h=>exact h
    | 4,hlj,hp,h=>exact absurd hp (onlyN_spec (i:=6) (j:=4) (by kernel_rfl) hdl)
    | 5,hlj,hp,h=>exact h
    | 6,hlj,hp,h=>rw [hli] at hlj;cases hlj
    | 7,hlj,hp,h=>exact h
    | 8,hlj,hp,h=>exact h
    | 9,hlj,hp,h=>exact h
    | 10,hlj,hp,h=>exact h
    | 11,hlj,hp,h=>obtain ⟨b,e,h⟩:=h;exact ⟨b,e,h.grown hg (fun q=>by obtain rfl:=Option.some.inj q;have h9:=Option.some.inj ((show z.heap[a2]?=some _ from k4).symm.trans (show z.heap[a2]?=some _ from h));cases h9)⟩
    | 12,hlj,hp,h=>rw [n12] at hlj;cases hlj
    | 13,hlj,hp,h=>exact h
    | 14,hlj,hp,h=>exact h
    | 15,hlj,hp,h=>exact h
    | 16,hlj,hp,h=>rw [n16] at hlj;cases hlj
    | 17,hlj,hp,h=>rw [n17] at hlj;cases hlj
    | 18,hlj,hp,h=>exact h
    | _+19,_,_,_=>trivial
   | 7,ho =>
    obtain rfl:=oj ho
    have hls:ℓ 18=false:=hup 12 18 (by kernel_rfl)
    have hPl:=fun (vv:Value) w' (hb:Below z.heap.size z w')=>jd_plain (i:=7) hj (ja_plain (i:=7) (x':=putX xX (some 47) vv) hj.1 (by decide) (by decide) hls hb) (by decide) rfl
    clear hdep ho hup
    dsimp only at hK ⊢
    refine wpOp_step rfl (fun K2 hK2=>?_)
    go_simp
    exact hK2 _ _ (hK _ _ (hPl _ _ (Below.refl _ _)) (fun _ _ _ _ h=>h) rfl)
   | 8,ho =>
    obtain rfl:=oj ho
    have hls:ℓ 18=false:=hup 12 18 (by kernel_rfl)
    have hPl:=fun (vv:Value) w' (hb:Below z.heap.size z w')=>jd_plain (i:=8) hj (ja_plain (i:=8) (x':=putX xX (some 48) vv) hj.1 (by decide) (by decide) hls hb) (by decide) rfl
    clear hdep ho hup
    dsimp only at hK ⊢
    refine wpOp_step rfl (fun K2 hK2=>?_)
    go_simp
    exact hK2 _ _ (hK _ _ (hPl _ _ (Below.refl _ _)) (fun _ _ _ _ h=>h) rfl)
   | 9,ho =>
    obtain rfl:=oj ho
    have q7:xX 47 = .slice (some ⟨bl,ol,none⟩) l.length cl:=hdep 7 (by kernel_rfl) _ _ rfl rfl
    have q8:xX 48 = .int .i64 (j:Int):=hdep 8 (by kernel_rfl) _ _ rfl rfl
    have hls:ℓ 18=false:=hup 12 18 (by kernel_rfl)
    have hPl:=fun (vv:Value) w' (hb:Below z.heap.size z w')=>jd_plain (i:=9) hj (ja_plain (i:=9) (x':=putX xX (some 49) vv) hj.1 (by decide) (by decide) hls hb) (by decide) rfl
    clear hdep ho hup
    dsimp only at hK ⊢
    simp only [q7,q8] at hK ⊢
    refine wpOp_step rfl (fun K2 hK2=>?_)
    go_simp
    exact hK2 _ _ (hK _ _ (hPl _ _ (Below.refl _ _)) (fun _ _ _ _ h=>h) rfl)
   | 10,ho =>
    obtain rfl:=oj ho
    have q9:xX 49 = .pointer (some ⟨bl,ol+j * 3,none⟩):=hdep 9 (by kernel_rfl) _ _ rfl rfl
    have hls:ℓ 18=false:=hup 12 18 (by kernel_rfl)
    have hPl:=fun (vv:Value) w' (hb:Below z.heap.size z w')=>jd_plain (i:=10) hj (ja_plain (i:=10) (x':=putX xX (some 50) vv) hj.1 (by decide) (by decide) hls hb) (by decide) rfl
    have hz:=hj.1.1 (hup 12 17 (by kernel_rfl))
    obtain ⟨y0,y1,y2⟩:=HYC.out z hz
    clear hdep ho hup
    dsimp only at hK ⊢
    simp only [q9] at hK ⊢
    refine wpOp_step rfl (fun K2 hK2=>?_)
    go_simp
    exact hK2 _ _ (hK _ _ (hPl _ _ (Below.refl _ _)) (fun _ _ _ _ h=>h) rfl)
   | 11,ho =>
    obtain rfl:=oj ho
    have q10:xX 50 = .agg #[.int .i64 x1,.int .i64 x2,.int .i64 x3]:=hdep 10 (by kernel_rfl) _ _ rfl rfl
    have hls:ℓ 18=false:=hup 12 18 (by kernel_rfl)
    have hPl:=fun (vv:Value) w' (hb:Below z.heap.size z w')=>jd_plain (i:=11) hj (ja_plain (i:=11) (x':=putX xX (some 51) vv) hj.1 (by decide) (by decide) hls hb) (by decide) rfl
    have hz:=hj.1.1 (hup 12 17 (by kernel_rfl))
    clear hdep ho hup
    dsimp only at hK ⊢
    simp only [q10] at hK ⊢
    refine wpOp_step rfl (fun K2 hK2=>?_)
    go_simp
    have hb:Below z.heap.size z (z.alloc (.cells #[.int .i64 x1,.int .i64 x2,.int .i64 x3] 74)):=fresh_below _ _
    refine hK2 _ _ (hK _ _ (hPl _ _ hb) ?_ ⟨z.heap.size,rfl,Blk.new z _ _⟩)
    intro jj v' hlj hp h
    match jj,hlj,hp,h with
    | 0,hlj,hp,h=>exact h
    | 1,hlj,hp,h=>exact h
    | 2,hlj,hp,h=>exact h
    | 3,hlj,hp,h=>exact h
    | 4,hlj,hp,h=>obtain ⟨a,e,h1,h2⟩:=h;exact ⟨a,e,h1.below hb,h2⟩
    | 5,hlj,hp,h=>exact h
    | 6,hlj,hp,h=>obtain ⟨V,e,h⟩:=h;exact ⟨V,e,row_later h hb⟩
    | 7,hlj,hp,h=>exact h
    | 8,hlj,hp,h=>exact h
    | 9,hlj,hp,h=>exact h
    | 10,hlj,hp,h=>exact h
    | 11,hlj,hp,h=>obtain ⟨b,e,h⟩:=h;exact ⟨b,e,h.below hb⟩
    | 12,hlj,hp,h=>obtain ⟨V,e,h⟩:=h;exact ⟨V,e,row_later h hb⟩
    | 13,hlj,hp,h=>exact h
    | 14,hlj,hp,h=>exact h
    | 15,hlj,hp,h=>exact h
    | 16,hlj,hp,h=>obtain ⟨V,e,g3,h⟩:=h;exact ⟨V,e,g3,h.later hb⟩
    | 17,hlj,hp,h=>obtain ⟨V,e,h⟩:=h;exact ⟨V,e,h.later hb⟩
    | 18,hlj,hp,h=>exact h
    | _+19,_,_,_=>trivial
   | 12,ho =>
    obtain rfl:=oj ho
    have h6:∃ V1,xX 46=V1∧z.ownsRow wr.heap.size 74 3 V1 f.length (ftCs f):=hdep 6 (by kernel_rfl) _ _ rfl rfl
    obtain ⟨V1,q6,r6⟩:=h6
    have h11:∃ b4,xX 51 = .slice (some ⟨b4,0,none⟩) 1 1∧Blk z b4 74 #[.int .i64 x1,.int .i64 x2,.int .i64 x3]:=hdep 11 (by kernel_rfl) _ _ rfl rfl
    obtain ⟨b4,q11,k11⟩:=h11
    have hls:ℓ 18=false:=hup 12 18 (by kernel_rfl)
    have hPl:=fun (vv:Value) w' (hb:Below z.heap.size z w')=>jd_plain (i:=12) hj (ja_plain (i:=12) (x':=putX xX (some 52) vv) hj.1 (by decide) (by decide) hls hb) (by decide) rfl
    have hz:=hj.1.1 (hup 12 17 (by kernel_rfl))
    have n16:=hup 12 16 (by kernel_rfl)
    have n17:=hup 12 17 (by kernel_rfl)
    clear hdep ho hup
    dsimp only at hK ⊢
    simp only [q6,q11] at hK ⊢
    refine wpOp_step rfl (fun K2 hK2=>?_)
    obtain ⟨V9,z1,hr,ho,hg⟩:=append_fts z wr.heap.size (V1) f (r6) (.slice (some ⟨b4,0,none⟩) 1 1) [(x1,x2,x3)] (ft_one (x:=(x1,x2,x3)) k11) (by rw [List.length_singleton];omega) hz.size
    have hb9:Below wr.heap.size wr z1:=hz.grown hg hz.size (fun _ e=>row_ge (r6) e)
    refine step_appendK rfl _ _ 28 28 rfl (V1) (.slice (some ⟨b4,0,none⟩) 1 1) (by simp [Act.eval]) (by simp [Act.eval]) hr ?_
    refine hK2 _ _ (hK _ _ (jd_plain (i:=12) hj (ja_keep (i:=12) (x':=putX xX (some 52) V9) (by decide) hls hb9) (by decide) rfl) ?_ ⟨V9,rfl,ho⟩)
    intro jj v' hlj hp h
    match jj,hlj,hp,h with
    | 0,hlj,hp,h=>exact h
    | 1,hlj,hp,h=>exact h
    | 2,hlj,hp,h=>exact h
    | 3,hlj,hp,h=>exact h
    | 4,hlj,hp,h=>exact absurd hp (onlyN_spec (i:=12) (j:=4) (by kernel_rfl) hdl)
    | 5,hlj,hp,h=>exact h
    | 6,hlj,hp,h=>exact absurd hp (onlyN_spec (i:=12) (j:=6) (by kernel_rfl) hdl)
    | 7,hlj,hp,h=>exact h
    | 8,hlj,hp,h=>exact h
    | 9,hlj,hp,h=>exact h
    | 10,hlj,hp,h=>exact h
    | 11,hlj,hp,h=>exact absurd hp (onlyN_spec (i:=12) (j:=11) (by kernel_rfl) hdl)
    | 12,hlj,hp,h=>rw [hli] at hlj;cases hlj
    | 13,hlj,hp,h=>exact h
    | 14,hlj,hp,h=>exact h
    | 15,hlj,hp,h=>exact h
    | 16,hlj,hp,h=>rw [n16] at hlj;cases hlj
    | 17,hlj,hp,h=>rw [n17] at hlj;cases hlj
    | 18,hlj,hp,h=>exact h
    | _+19,_,_,_=>trivial
   | 13,ho =>
    obtain rfl:=oj ho
    have hls:ℓ 18=false:=hup 12 18 (by kernel_rfl)
    have hPl:=fun (vv:Value) w' (hb:Below z.heap.size z w')=>jd_plain (i:=13) hj (ja_plain (i:=13) (x':=putX xX (some 53) vv) hj.1 (by decide) (by decide) hls hb) (by decide) rfl
    clear hdep ho hup
    dsimp only at hK ⊢
    refine wpOp_step rfl (fun K2 hK2=>?_)
    go_simp
    exact hK2 _ _ (hK _ _ (hPl _ _ (Below.refl _ _)) (fun _ _ _ _ h=>h) rfl)
   | 14,ho =>
    obtain rfl:=oj ho
    have q13:xX 53 = .int .i64 (j:Int):=hdep 13 (by kernel_rfl) _ _ rfl rfl
    have hls:ℓ 18=false:=hup 12 18 (by kernel_rfl)
    have hPl:=fun (vv:Value) w' (hb:Below z.heap.size z w')=>jd_plain (i:=14) hj (ja_plain (i:=14) (x':=putX xX (some 54) vv) hj.1 (by decide) (by decide) hls hb) (by decide) rfl
    clear hdep ho hup
    dsimp only at hK ⊢
    simp only [q13] at hK ⊢
    refine wpOp_step rfl (fun K2 hK2=>?_)
    go_simp
    exact hK2 _ _ (hK _ _ (hPl _ _ (Below.refl _ _)) (fun _ _ _ _ h=>h) rfl)
   | 15,ho =>
    obtain rfl:=oj ho
    have hls:ℓ 18=false:=hup 12 18 (by kernel_rfl)
    have hPl:=fun (vv:Value) w' (hb:Below z.heap.size z w')=>jd_plain (i:=15) hj (ja_plain (i:=15) (x':=putX xX (some 55) vv) hj.1 (by decide) (by decide) hls hb) (by decide) rfl
    clear hdep ho hup
    dsimp only at hK ⊢
    refine wpOp_step rfl (fun K2 hK2=>?_)
    go_simp
    exact hK2 _ _ (hK _ _ (hPl _ _ (Below.refl _ _)) (fun _ _ _ _ h=>h) rfl)
   | 16,ho =>
    obtain rfl:=oj ho
    have q1:xX 41 = .agg #[v1,v2,v3,v4]:=hdep 1 (by kernel_rfl) _ _ rfl rfl
    have q2:xX 42=tv:=hdep 2 (by kernel_rfl) _ _ rfl rfl
    have q3:xX 43 = .slice (some ⟨bl,ol,none⟩) l.length cl:=hdep 3 (by kernel_rfl) _ _ rfl rfl
    have h12:∃ V2,xX 52=V2∧z.ownsRow wr.heap.size 74 3 V2 (f++[(x1,x2,x3)]).length (ftCs (f++[(x1,x2,x3)])):=hdep 12 (by kernel_rfl) _ _ rfl rfl
    obtain ⟨V2,q12,r12⟩:=h12
    have q14:xX 54 = .int .i64 ((j:Int)+1):=hdep 14 (by kernel_rfl) _ _ rfl rfl
    have q15:xX 55 = .int .i64 (many:Int):=hdep 15 (by kernel_rfl) _ _ rfl rfl
    have hls:ℓ 18=false:=hup 12 18 (by kernel_rfl)
    have hPl:=fun (vv:Value) w' (hb:Below z.heap.size z w')=>jd_plain (i:=16) hj (ja_plain (i:=16) (x':=putX xX (some 56) vv) hj.1 (by decide) (by decide) hls hb) (by decide) rfl
    have hz:=hj.1.1 (hup 12 17 (by kernel_rfl))
    clear hdep ho hup
    dsimp only at hK ⊢
    simp only [q1,q2,q3,q12,q14,q15] at hK ⊢
    refine wpOp_step rfl (fun K2 hK2=>?_)
    go_simp
    refine (HIJ.out V2 z (below_step hS.out.2.2 hz) (ARd.of_fts r12)).mono ?_
    intro e z1 h
    obtain ⟨V3,g3,rfl,hst,hb⟩:=HTO.out _ _ _ _ _ _ h
    refine hK2 _ _ (hK _ _ (hPl _ _ hb) ?_ ⟨V3,rfl,g3,hst.base hz.size⟩)
    intro jj v' hlj hp h
    match jj,hlj,hp,h with
    | 0,hlj,hp,h=>exact h
    | 1,hlj,hp,h=>exact h
    | 2,hlj,hp,h=>exact h
    | 3,hlj,hp,h=>exact h
    | 4,hlj,hp,h=>obtain ⟨a,e,h1,h2⟩:=h;exact ⟨a,e,h1.below hb,h2⟩
    | 5,hlj,hp,h=>exact h
    | 6,hlj,hp,h=>obtain ⟨V,e,h⟩:=h;exact ⟨V,e,row_later h hb⟩
    | 7,hlj,hp,h=>exact h
    | 8,hlj,hp,h=>exact h
    | 9,hlj,hp,h=>exact h
    | 10,hlj,hp,h=>exact h
    | 11,hlj,hp,h=>obtain ⟨b,e,h⟩:=h;exact ⟨b,e,h.below hb⟩
    | 12,hlj,hp,h=>obtain ⟨V,e,h⟩:=h;exact ⟨V,e,row_later h hb⟩
    | 13,hlj,hp,h=>exact h
    | 14,hlj,hp,h=>exact h
    | 15,hlj,hp,h=>exact h
    | 16,hlj,hp,h=>obtain ⟨V,e,g3,h⟩:=h;exact ⟨V,e,g3,h.later hb⟩
    | 17,hlj,hp,h=>obtain ⟨V,e,h⟩:=h;exact ⟨V,e,h.later hb⟩
    | 18,hlj,hp,h=>exact h
    | _+19,_,_,_=>trivial
   | 17,ho =>
    obtain rfl:=oj ho
    have q0:xX 40 = .slice ao O.length co:=hdep 0 (by kernel_rfl) _ _ rfl rfl
    have h16:∃ V3,xX 56=V3∧∃ g3,StO wr.heap.size z V3 (stF S B (trs L) (l.drop (j+1)) q (f++[(x1,x2,x3)])) g3:=hdep 16 (by kernel_rfl) _ _ rfl rfl
    obtain ⟨V3,q16,g3,r16⟩:=h16
    have hz:=hj.1.1 hli
    have hls:ℓ 18=false:=hup 12 18 (by kernel_rfl)
    clear hdep ho hup
    dsimp only at hK ⊢
    simp only [q0,q16] at hK ⊢
    refine wpOp_step rfl (fun K2 hK2=>?_)
    obtain ⟨⟨g0,hs0⟩,hk0,hb0⟩:=hS.out.later hz
    obtain ⟨V9,z1,hr,ho,hg⟩:=append_sto hs0 r16 hS.out.2.2.size (by have:=HSL.out q (f++[(x1,x2,x3)]) (j+1) HQ3.out;omega) hb0.size
    refine step_appendK rfl _ _ 43 43 rfl (.slice ao O.length co) V3 (by simp [Act.eval]) (by simp [Act.eval]) hr ?_
    refine hK2 _ _ (hK _ _ (jd_plain (i:=17) hj (ja_mid (by decide) hls) (by decide) rfl) ?_ ⟨V9,rfl,SeO.put ⟨⟨g0,hs0⟩,hk0,hb0⟩ ho hg⟩)
    intro jj v' hlj hp h
    match jj,hlj,hp,h with
    | 0,hlj,hp,h=>exact h
    | 1,hlj,hp,h=>exact h
    | 2,hlj,hp,h=>exact h
    | 3,hlj,hp,h=>exact h
    | 4,hlj,hp,h=>exact absurd hp (onlyN_spec (i:=17) (j:=4) (by kernel_rfl) hdl)
    | 5,hlj,hp,h=>exact h
    | 6,hlj,hp,h=>exact absurd hp (onlyN_spec (i:=17) (j:=6) (by kernel_rfl) hdl)
    | 7,hlj,hp,h=>exact h
    | 8,hlj,hp,h=>exact h
    | 9,hlj,hp,h=>exact h
    | 10,hlj,hp,h=>exact h
    | 11,hlj,hp,h=>exact absurd hp (onlyN_spec (i:=17) (j:=11) (by kernel_rfl) hdl)
    | 12,hlj,hp,h=>exact absurd hp (onlyN_spec (i:=17) (j:=12) (by kernel_rfl) hdl)
    | 13,hlj,hp,h=>exact h
    | 14,hlj,hp,h=>exact h
    | 15,hlj,hp,h=>exact h
    | 16,hlj,hp,h=>exact absurd hp (onlyN_spec (i:=17) (j:=16) (by kernel_rfl) hdl)
    | 17,hlj,hp,h=>rw [hli] at hlj;cases hlj
    | 18,hlj,hp,h=>exact h
    | _+19,_,_,_=>trivial
   | 18,ho =>
    obtain rfl:=oj ho
    have h17:∃ V4,xX 57=V4∧SeO W v1 v2 v3 v4 (O++stF S B (trs L) (l.drop (j+1)) q (f++[(x1,x2,x3)])) V4 z:=hdep 17 (by kernel_rfl) _ _ rfl rfl
    obtain ⟨V4,q17,r17⟩:=h17
    clear hdep ho hup
    dsimp only at hK ⊢
    simp only [q17] at hK ⊢
    refine wpOp_step rfl (fun K2 hK2=>?_)
    go_simp
    exact hK2 _ _ (hK _ _ (jd_last (ja_last (.inr (hdl 1 17 (by kernel_rfl))) ⟨_,rfl,r17⟩)) (fun _ _ _ hp _=>absurd hp (lastN_spec (by kernel_rfl) (by kernel_rfl) hdl)) trivial)
   | n+19,ho=>exact absurd (Array.getElem?_eq_some_iff.1 ho).1 (by simp)
  case done =>
   intro ℓ xX z hall hj
   have hf:=hj.1.2 (hall 18 (of_decide_eq_true (by kernel_rfl)))
   obtain ⟨V4,q18,r18⟩:=hf
   have HS2:=hid r18
   have HO2:=hid (show stF S B (trs L) (l.drop i) (q+1) f=(O++stF S B (trs L) (l.drop (j+1)) q (f++[(x1,x2,x3)]))++stF S B (trs L) (l.drop (j+1)) (q+1) f by rw [hO.out,HAT.out,List.append_assoc])
   have hol:(O++stF S B (trs L) (l.drop (j+1)) q (f++[(x1,x2,x3)])).length≤1000000 * (j+1):=by have:=HSL.out q (f++[(x1,x2,x3)]) (j+1) HQ3.out;rw [List.length_append];omega
   dsimp only
   simp only [q18]
   clear hj hall q18 r18 hO hS
   go_wp2
   go_roundw
   case rel=>exact ⟨j+1,_,by omega,by omega,by go_num,hol,HO2,HS2⟩
   case measure=>simp [intOf];omega
 ·have j1:¬ (j:Int)<(l.length:Int):=by omega
  have HE:=hid (HRT.out O _ wr hS.out (by rw [hO.out,stF_end (by omega),List.append_nil]))
  clear hO HRT hS
  go_wp2
  go_ret
  exact HE.out
theorem sets30_any (v1 v2 v3 v4:Value) (S:Sp) (ok:SpWk S) (hc:(checkP S).2=0) (fp:Nat→Value) (L:List Tl) (hL:∀ t∈L,HnOk S t.h) (hll:L.length≤1000000) (tv lv:Value) (gk gs gc gh:Nat→Value) (B:(Th→Int)→Pp→Bool) (hB:SndIs S B) (many:Nat) (hmn:many≤3) (w:World) (hsp:SpRd w v1 v2 v3 v4 fp S) (htv:TlRd w tv L gk gs gc gh) (hlv:ARd w lv 3 ((allFt S).map ftC)) (hfew:(allFt S).length≤20):∀ q,SeC w v1 v2 v3 v4 tv lv S B (trs L) many q
 | 0=>sets30_zero v1 v2 v3 v4 S ok hc fp L hL hll tv lv gk gs gc gh B hB many w hsp htv hfew
 | q+1=>sets30_succ v1 v2 v3 v4 S L tv lv B many q hmn w hlv hfew (sets30_any v1 v2 v3 v4 S ok hc fp L hL hll tv lv gk gs gc gh B hB many hmn w hsp htv hlv hfew q)
theorem rleast_any (v1 v2 v3 v4:Value) (S:Sp) (ok:SpWk S) (fp:Nat→Value) (L:List Tl) (hsm:∀ t∈L,HnSm t.h∧t.l.length≤1000000) (hll:L.length≤1000000) (tv:Value) (gk gs gc gh:Nat→Value) (B:(Th→Int)→Pp→Bool) (hB:(checkP S).2=0→SndIs S B) (most:Int) (hfew:lsE S L most=0→(allFt S).length≤20) (w:World) (hsp:SpRd w v1 v2 v3 v4 fp S) (htv:TlRd w tv L gk gs gc gh) :
  Calls Tryz.prog 23 #[.agg #[v1,v2,v3,v4],tv,.int .i64 most] w (LeaE S B L most w):=by
 obtain ⟨at',ct,ev⟩:=htv.form
 subst ev
 obtain ⟨_,_,⟨a3,c3,rfl⟩,⟨a4,c4,rfl⟩⟩:=hsp.forms
 have HB0:=hid (show Below w.heap.size w (w.alloc (.cells #[v1,v2,.slice a3 S.ss.length c3,.slice a4 S.cs.length c4] 27)) from (Below.refl _ _).alloc (Nat.le_refl _) _)
 have K0:=hid (Blk.new w 27 #[v1,v2,.slice a3 S.ss.length c3,.slice a4 S.cs.length c4])
 have HCS:=hid (fun (W:World) (hb:Below w.heap.size w W)=>check30_any v1 v2 (.slice a3 S.ss.length c3) (.slice a4 S.cs.length c4) S ok fp L hsm (.slice at' L.length ct) gk gs gc gh W (hsp.later hb) (htv.later hb) hll)
 have HAL:=hid (fun (h2:trlE S L=0) (W:World) (hb:Below w.heap.size w W)=>all30_any v1 v2 (.slice a3 S.ss.length c3) (.slice a4 S.cs.length c4) S (trlE_ok h2).1 fp W (hsp.later hb))
 have HSE:=hid (fun (h2:trlE S L=0) (hf:(allFt S).length≤20) (many:Nat) (hm3:many≤3) (W:World) (hb:Below w.heap.size w W) (lv:Value) (hlv:ARd W lv 3 ((allFt S).map ftC))=>show Calls Tryz.prog 56 #[.agg #[v1,v2,.slice a3 S.ss.length c3,.slice a4 S.cs.length c4],.slice at' L.length ct,lv,.slice none 0 0,.int .i64 0,.int .i64 many] W (fun e W'=>∃ v M g,e = .returned v∧SetsP S B (trs L) many M∧StO W.heap.size W' v M g∧Below W.heap.size W W') from
  ((sets30_any v1 v2 (.slice a3 S.ss.length c3) (.slice a4 S.cs.length c4) S ok (trlE_ok h2).1 fp L (fun t ht=>(trl_hands h2 t ht).1) hll (.slice at' L.length ct) lv gk gs gc gh B (hB (trlE_ok h2).1) many hm3 W (hsp.later hb) (htv.later hb) hlv hf many) [] 0 (.slice none 0 0) W (Nat.zero_add _) (suP_nil S) (Nat.zero_le _) (Below.refl _ _) (ARd.empty _ _)).mono (fun e W' h=>by
   obtain ⟨v,g,he,hst,hb⟩:=h
   exact ⟨v,_,g,he,stF_sets,hst,hb⟩))
 have HFE:=hid hfew
 obtain ⟨s0,s1,s2,s3⟩:=K0.out.four
 clear ok hsp hB htv hsm hfew
 go_enter Tryz.func23,Tryz.ntmps23
 go_upto_region 1 with fail
 generalize w.alloc (.cells #[v1,v2,.slice a3 S.ss.length c3,.slice a4 S.cs.length c4] 27)=W0 at *
 go_wp2_with fail
 refine (HCS.out _ HB0.out).mono ?_
 rintro e W1 ⟨rfl,hb1⟩
 have HB1:=hid (below_step HB0.out hb1)
 replace K0:=hid (K0.out.below hb1)
 clear hb1 s0 s1 s2 s3 HB0 HCS
 obtain ⟨n,hn⟩:∃ n,trlE S L=n:=⟨_,rfl⟩
 rw [hn]
 by_cases hz:n=0
 case neg =>
  have q1:(n==0)=false:=by simpa using hz
  have q2:(n != 0)=true:=by simpa using hz
  have HE:=hid (lsP_bad (B:=B) (most:=most) ((lsE_trl (by rw [hn];exact hz)).trans hn) hz)
  clear hz hn
  go_wp2
  go_ret2
  exact ⟨_,_,_,_,rfl,HE.out,StO.nil _ _,HB1.out⟩
 subst hz
 have HN:=hid hn
 clear hn
 obtain ⟨s0,s1,s2,s3⟩:=K0.out.four
 by_cases hs:20<S.ss.length
 ·have d1:decide ((20:Int)<(S.ss.length:Int))=true:=decide_eq_true (by omega)
  have d2:decide (20<S.ss.length)=true:=decide_eq_true hs
  have HE:=hid (lsP_bad (B:=B) (lsE_long (most:=most) HN.out (.inl hs)) (by decide))
  clear hs
  go_wp2
  go_ret2
  exact ⟨_,_,_,_,rfl,HE.out,StO.nil _ _,HB1.out⟩
 have d1:decide ((20:Int)<(S.ss.length:Int))=false:=decide_eq_false (by omega)
 have d2:decide (20<S.ss.length)=false:=decide_eq_false hs
 by_cases hs2:8<S.cs.length
 ·have d3:decide ((8:Int)<(S.cs.length:Int))=true:=decide_eq_true (by omega)
  have d4:decide (8<S.cs.length)=true:=decide_eq_true hs2
  have HE:=hid (lsP_bad (B:=B) (lsE_long (most:=most) HN.out (.inr hs2)) (by decide))
  clear hs hs2
  go_wp2
  go_ret2
  exact ⟨_,_,_,_,rfl,HE.out,StO.nil _ _,HB1.out⟩
 have d3:decide ((8:Int)<(S.cs.length:Int))=false:=decide_eq_false (by omega)
 have d4:decide (8<S.cs.length)=false:=decide_eq_false hs2
 have HSL:=hid (show ¬ (20<S.ss.length∨8<S.cs.length) from fun h=>h.elim hs hs2)
 clear hs hs2
 by_cases hm:most<0
 ·have d5:decide (most<0)=true:=decide_eq_true hm
  have HE:=hid (lsP_bad (B:=B) (lsE_arg HN.out HSL.out (.inl hm)) (by decide))
  clear hm
  go_wp2
  go_ret2
  exact ⟨_,_,_,_,rfl,HE.out,StO.nil _ _,HB1.out⟩
 have d5:decide (most<0)=false:=decide_eq_false hm
 by_cases hm2:3<most
 ·have d6:decide (3<most)=true:=decide_eq_true hm2
  have HE:=hid (lsP_bad (B:=B) (lsE_arg HN.out HSL.out (.inr hm2)) (by decide))
  clear hm hm2
  go_wp2
  go_ret2
  exact ⟨_,_,_,_,rfl,HE.out,StO.nil _ _,HB1.out⟩
 have d6:decide (3<most)=false:=decide_eq_false hm2
 have HLS:=hid (lsE_in HN.out HSL.out (fun h=>h.elim hm hm2))
 obtain ⟨mm,rfl⟩:∃ mm:Nat,most=(mm:Int):=⟨most.toNat,by omega⟩
 have hmm3:mm≤3:=by omega
 have HM0:=hid (show ∀ g,FtsOk S g→g.length<0→¬ Exps S B g (trs L) from fun _ _ h=>absurd h (Nat.not_lt_zero _))
 clear hm hm2 HSL
 go_wp2
 clear d1 d2 d3 d4 d5 d6 s0 s1 s2 s3
 go_loopw [9] (fun x wr=>∃ k:Nat,k≤mm+1∧x = .int .i64 k∧Hid (∀ g,FtsOk S g→g.length<k→¬ Exps S B g (trs L))∧Hid (Below w.heap.size w wr)∧Hid (Blk wr w.heap.size 27 #[v1,v2,.slice a3 S.ss.length c3,.slice a4 S.cs.length c4])) (fun x _=>mm+1-(intOf x).toNat)
 case atStart=>exact ⟨0,Nat.zero_le _,rfl,HM0,HB1,K0⟩
 clear HM0 HB1 K0
 obtain ⟨k,hk,rfl,hmin,hB,hK⟩:=hrel
 obtain ⟨s0,s1,s2,s3⟩:=hK.out.four
 by_cases hkl:k≤mm
 ·have d1:decide ((k:Int)≤(mm:Int))=true:=decide_eq_true (by omega)
  have d2:decide (k≤mm)=true:=decide_eq_true hkl
  have hdr:=hold4 (W0:=w) ⟨hB.out,s0,s1,s2,s3⟩ ((Below.refl _ wr).drew)
  have HKD:=hid (hK.out.below ((Below.refl wr.heap.size wr).drew))
  have HS1:=hid (HSE.out HN.out (HFE.out HLS.out) k (by omega))
  have HA1:=hid (HAL.out HN.out)
  clear s0 s1 s2 s3 hB hK
  go_upto_region 11 with fail
  clear d1 d2
  go_region_held3 (fun w'=>Below w.heap.size w w'∧w'.cell? ⟨w.heap.size,0,none⟩=some v1∧w'.cell? ⟨w.heap.size,1,none⟩=some v2∧w'.cell? ⟨w.heap.size,2,none⟩=some (.slice a3 S.ss.length c3)∧w'.cell? ⟨w.heap.size,3,none⟩=some (.slice a4 S.cs.length c4)) (first | exact hdr | assumption | fail) (first | (go_at_call 55;(with_reducible refine (HA1.out _ hdr.1).mono ?_);rintro e w2 ⟨u,rfl,hrow,hb2⟩;obtain ⟨ua,un,rfl⟩:=own_form hrow;have hn:=hold4 hdr hb2;have hk2:=HKD.out.below hb2;have hset:=HS1.out w2 hn.1 _ (ARd.of_fts hrow)) | (go_at_call 56;(with_reducible refine hset.mono ?_);rintro e w3 ⟨v,M,g,rfl,hM,hst,hb3⟩;obtain ⟨va,vc,rfl⟩:=own_form hst.row;have hn3:=hold4 hn hb3;have HB3:=hid hn3.1;have HK3:=hid (hk2.below hb3);have HST:=hid (hst.base hn.1.size);have HMS:=hid hM) | fail)
  clear hdr hn hn3 hk2 HKD hset HS1 HA1 hrow hM hst
  by_cases h2:200<M.length
  ·have d1:decide ((200:Int)<(M.length:Int))=true:=decide_eq_true (by omega)
   have d2:decide (200<M.length)=true:=decide_eq_true h2
   have HE:=hid (lea_full HLS.out (show k≤((mm:Int)).toNat by omega) hmin.out HMS.out h2)
   clear h2
   go_wp2
   go_ret2
   exact ⟨_,_,_,_,rfl,HE.out,StO.nil _ _,HB3.out⟩
  have d1:decide ((200:Int)<(M.length:Int))=false:=decide_eq_false (by omega)
  have d2:decide (200<M.length)=false:=decide_eq_false h2
  by_cases h0:0<M.length
  ·have d3:decide ((0:Int)<(M.length:Int))=true:=decide_eq_true (by omega)
   have d4:decide (0<M.length)=true:=decide_eq_true h0
   have HE:=hid (lea_has HLS.out (show k≤((mm:Int)).toNat by omega) hmin.out HMS.out h2 h0)
   clear h2 h0
   go_wp2
   go_ret2
   exact ⟨_,_,_,_,rfl,HE.out,HST.out,HB3.out⟩
  have d3:decide ((0:Int)<(M.length:Int))=false:=decide_eq_false (by omega)
  have d4:decide (0<M.length)=false:=decide_eq_false h0
  have HM2:=hid (lea_next_min hmin.out HMS.out (by omega))
  clear h2 h0 HST HMS
  go_wp2
  go_roundw
  case rel=>exact ⟨k+1,by omega,by go_num,HM2,HB3,HK3⟩
  case measure=>simp [intOf];omega
 ·have d1:decide ((k:Int)≤(mm:Int))=false:=decide_eq_false (by omega)
  have d2:decide (k≤mm)=false:=decide_eq_false hkl
  have HE:=hid (lea_none HLS.out (show ((mm:Int)).toNat<k by omega) hmin.out)
  clear hkl
  go_wp2
  go_ret2
  exact ⟨_,_,_,_,rfl,HE.out,StO.nil _ _,hB.out⟩
end Go.Proofs.YteflhbfgpknabaaGreatDoor
