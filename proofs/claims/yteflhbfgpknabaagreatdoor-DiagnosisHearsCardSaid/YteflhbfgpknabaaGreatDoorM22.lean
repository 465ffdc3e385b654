/-
  A part of the proof: ShelfI, VF, VG, WC, WD, VH, VI, VJ.
-/
import Derived.Test.YteflhbfgpknabaaGreatDoorM01
import Derived.Shelf.Sort.Plain
import Derived.Shelf.Slices.Turned
import Derived.Shelf.Slices.Cells
import Derived.Shelf.Slices.In.SortNone
import Derived.Test.YteflhbfgpknabaaGreatDoorM21
import Derived.Test.YteflhbfgpknabaaGreatDoorM12
import Derived.Test.YteflhbfgpknabaaGreatDoorM08
import Derived.BigQuiet
import Derived.Deep.QuietTactic
import Derived.Test.YteflhbfgpknabaaGreatDoorM07
import Derived.Lib.AppendZeros
import Derived.Lib.AppendZerosOnto
import Derived.Deep.AppendSrc
import Derived.Laws.NewBlocks
import Derived.Laws.IdiomCopy
import Derived.Deep.CutRange
import Derived.Shelf.RegionOpenPlain
import Derived.Shelf.Spec.SlicesInsert
namespace Go.Proofs
open Go.Shelf
def Tryz.lays189_ren:Go.Shelf.Ren:=⟨fun | 189=>114 | 125=>109 | 257=>150 | 128=>139 | 129=>140 | 294=>172 | 295=>173 | 296=>174 | 297=>175 | 298=>176 | 299=>177 | 216=>178 | 300=>179 | 301=>180 | 328=>191 | 329=>165 | 330=>166 | 331=>192 | 332=>193 | 215=>127 | 343=>205 | n=>n,fun | 28=>30 | 3=>3 | 46=>164 | 0=>0 | 51=>191 | 53=>193 | 4=>4 | 183=>185 | 182=>184 | 131=>124 | 5=>5 | 9=>9 | 218=>221 | 222=>225 | 228=>243 | 229=>244 | n=>n,fun | n=>n⟩
theorem Tryz.lays189:Go.Proofs.Lays.n189 Tryz.prog Tryz.lays189_ren:={
 mixed:=by kernel_rfl
 f125:=Tryz.func109.trans (congrArg some (by kernel_rfl))
 f128:=Tryz.func139.trans (congrArg some (by kernel_rfl))
 f129:=Tryz.func140.trans (congrArg some (by kernel_rfl))
 f189:=Tryz.func114.trans (congrArg some (by kernel_rfl))
 f215:=Tryz.func127.trans (congrArg some (by kernel_rfl))
 f216:=Tryz.func178.trans (congrArg some (by kernel_rfl))
 f257:=Tryz.func150.trans (congrArg some (by kernel_rfl))
 f294:=Tryz.func172.trans (congrArg some (by kernel_rfl))
 f295:=Tryz.func173.trans (congrArg some (by kernel_rfl))
 f296:=Tryz.func174.trans (congrArg some (by kernel_rfl))
 f297:=Tryz.func175.trans (congrArg some (by kernel_rfl))
 f298:=Tryz.func176.trans (congrArg some (by kernel_rfl))
 f299:=Tryz.func177.trans (congrArg some (by kernel_rfl))
 f300:=Tryz.func179.trans (congrArg some (by kernel_rfl))
 f301:=Tryz.func180.trans (congrArg some (by kernel_rfl))
 f328:=Tryz.func191.trans (congrArg some (by kernel_rfl))
 f329:=Tryz.func165.trans (congrArg some (by kernel_rfl))
 f330:=Tryz.func166.trans (congrArg some (by kernel_rfl))
 f331:=Tryz.func192.trans (congrArg some (by kernel_rfl))
 f332:=Tryz.func193.trans (congrArg some (by kernel_rfl))
 f343:=Tryz.func205.trans (congrArg some (by kernel_rfl))
 t0:=Tryz.underlying0
 a0:=Tryz.isAgg0
 z0:=Tryz.sizeOf0
 v0:=Tryz.zeroValue0
 t3:=Tryz.underlying3
 a3:=Tryz.isAgg3
 z3:=Tryz.sizeOf3
 v3:=Tryz.zeroValue3
 t4:=Tryz.underlying4
 a4:=Tryz.isAgg4
 z4:=Tryz.sizeOf4
 v4:=Tryz.zeroValue4
 t5:=Tryz.underlying5
 a5:=Tryz.isAgg5
 z5:=Tryz.sizeOf5
 v5:=Tryz.zeroValue5
 t9:=Tryz.underlying9
 a9:=Tryz.isAgg9
 z9:=Tryz.sizeOf9
 v9:=Tryz.zeroValue9
 t28:=Tryz.underlying30
 a28:=Tryz.isAgg30
 z28:=Tryz.sizeOf30
 v28:=Tryz.zeroValue30
 t46:=Tryz.underlying164
 a46:=Tryz.isAgg164
 z46:=Tryz.sizeOf164
 v46:=Tryz.zeroValue164
 t51:=Tryz.underlying191
 a51:=Tryz.isAgg191
 z51:=Tryz.sizeOf191
 v51:=Tryz.zeroValue191
 t53:=Tryz.underlying193
 a53:=Tryz.isAgg193
 z53:=Tryz.sizeOf193
 v53:=Tryz.zeroValue193
 t131:=Tryz.underlying124
 a131:=Tryz.isAgg124
 z131:=Tryz.sizeOf124
 v131:=Tryz.zeroValue124
 t182:=Tryz.underlying184
 a182:=Tryz.isAgg184
 z182:=Tryz.sizeOf184
 v182:=Tryz.zeroValue184
 t183:=Tryz.underlying185
 a183:=Tryz.isAgg185
 z183:=Tryz.sizeOf185
 v183:=Tryz.zeroValue185
 t218:=Tryz.underlying221
 a218:=Tryz.isAgg221
 z218:=Tryz.sizeOf221
 v218:=Tryz.zeroValue221
 t222:=Tryz.underlying225
 a222:=Tryz.isAgg225
 z222:=Tryz.sizeOf225
 v222:=Tryz.zeroValue225
 t228:=Tryz.underlying243
 a228:=Tryz.isAgg243
 z228:=Tryz.sizeOf243
 v228:=Tryz.zeroValue243
 t229:=Tryz.underlying244
 a229:=Tryz.isAgg244
 z229:=Tryz.sizeOf244
 v229:=Tryz.zeroValue244 }
open Go.Sort Go.RowKit in
theorem Tryz.slices_Sort_int (blk off cap:Nat) (zs:List Int) (w:World) (hH:Holds (Value.int .i64) w blk off zs.toArray) (hblk:blk < w.heap.size) (hsz:zs.length < 4611686018427387904) :
  Calls Tryz.prog 114 #[.slice (some ⟨blk,off,none⟩) zs.length cap] w fun e w' =>
   e = .returned (.tuple #[])∧∃ n os,w'=grow (putRow (Value.int .i64) (Sort.ahead w n) blk off (zs.mergeSort fun x y=>decide (x≤y)).toArray) os:=Any.slices_Sort_int Tryz.lays189 blk off cap zs w hH hblk hsz
open Go.RowKit Go.Sort in
theorem Tryz.slices_Sort_int_none (p:Option Addr) (cap:Nat) (w:World) :
  Calls Tryz.prog 114 #[.slice p 0 cap] w fun e w'=>e = .returned (.tuple #[])∧w'=w:=Any.slices_Sort_int_none Tryz.lays189 p cap w
end Go.Proofs
namespace Go.Proofs.YteflhbfgpknabaaGreatDoor
open Go.RowKit Go.Shelf
abbrev vI (l:List Int):List Value:=l.map (Value.int .i64)
theorem compact_sorted (d:Array Int) (hs:∀ i j,i≤j→j < d.size→d[i]! ≤ d[j]!):∀ m,m≤d.size→(Lib.compactUpTo d m).Pairwise (· < ·)∧∀ x,x∈Lib.compactUpTo d m ↔ ∃ j,j < m∧x=d[j]!
 | 0,_=>by
  refine ⟨by simp [Lib.compactUpTo],fun x=>?_⟩
  simp [Lib.compactUpTo]
 | m + 1,hm=>by
  obtain ⟨h1,h2⟩:=compact_sorted d hs m (by omega)
  rw [Lib.compactUpTo_succ]
  by_cases hk:m=0∨d[m]! ≠ d[m - 1]!
  ·have hkp:Lib.keeps d m=true:=by unfold Lib.keeps; exact decide_eq_true hk
   rw [if_pos hkp]
   refine ⟨?_,fun x=>?_⟩
   ·rw [List.pairwise_append]
    refine ⟨h1,List.pairwise_singleton _ _,fun a ha b hb=>?_⟩
    rw [List.mem_singleton] at hb
    subst hb
    obtain ⟨j,hj,rfl⟩:=(h2 a).1 ha
    rcases hk with hk | hk
    ·omega
    ·have a1:=hs j (m - 1) (by omega) (by omega)
     have a2:=hs (m - 1) m (by omega) (by omega)
     omega
   ·rw [List.mem_append,List.mem_singleton,h2 x]
    constructor
    ·rintro (⟨j,hj,rfl⟩ | rfl)
     ·exact ⟨j,by omega,rfl⟩
     ·exact ⟨m,by omega,rfl⟩
    ·rintro ⟨j,hj,rfl⟩
     by_cases e:j=m
     ·subst e; exact .inr rfl
     ·exact .inl ⟨j,by omega,rfl⟩
  ·have hm0:m≠0:=fun e=>hk (.inl e)
   have he:d[m]! = d[m - 1]!:=Classical.byContradiction fun e=>hk (.inr e)
   have hkn:Lib.keeps d m=false:=Lib.keeps_neg (by omega) he
   rw [hkn]
   simp only [Bool.false_eq_true,if_false,List.append_nil]
   refine ⟨h1,fun x=>(h2 x).trans ⟨fun ⟨j,hj,e⟩=>⟨j,by omega,e⟩,fun ⟨j,hj,e⟩=>?_⟩⟩
   by_cases e2:j=m
   ·exact ⟨m - 1,by omega,by rw [e,e2,he]⟩
   ·exact ⟨j,by omega,e⟩
theorem sort_compact (L:List Int):(Lib.compact (L.mergeSort fun x y=>decide (x≤y))).Pairwise (· < ·)∧∀ x,x∈Lib.compact (L.mergeSort fun x y=>decide (x≤y)) ↔ x∈L:=by
 have hp:=List.pairwise_mergeSort (le:=fun x y:Int=>decide (x≤y)) (fun a b c h1 h2=>by simp only [decide_eq_true_eq] at *; omega) (fun a b=>by simp only [Bool.or_eq_true,decide_eq_true_eq]; omega) L
 have hm:=fun x=>(List.mergeSort_perm L fun x y=>decide (x≤y)).mem_iff (a:=x)
 obtain ⟨S,hS⟩:∃ S,(L.mergeSort fun x y=>decide (x≤y))=S:=⟨_,rfl⟩
 rw [hS] at hp hm ⊢
 have hs:∀ i j,i≤j→j < S.toArray.size→S.toArray[i]! ≤ S.toArray[j]!:=fun i j hij hj=>by
  have hj':j < S.length:=by simpa using hj
  rw [getElem!_pos S.toArray i (by simp; omega),getElem!_pos S.toArray j hj]
  simp only [List.getElem_toArray]
  by_cases e:i=j
  ·subst e; exact Int.le_refl _
  ·have:=List.pairwise_iff_getElem.1 hp i j (by omega) hj' (by omega)
   simpa using this
 have h:=compact_sorted S.toArray hs S.length (by simp)
 refine ⟨h.1,fun x=>(h.2 x).trans (Iff.trans ?_ (hm x))⟩
 constructor
 ·rintro ⟨j,hj,rfl⟩
  rw [getElem!_pos S.toArray j (by simpa using hj)]
  simp
 ·intro hx
  obtain ⟨j,hj,rfl⟩:=List.getElem_of_mem hx
  exact ⟨j,hj,by rw [getElem!_pos S.toArray j (by simpa using hj)]; simp⟩
theorem sortR_any (L:List Int) (hn:L.length≤1000000000) (base:Nat) (v:Value) (w:World) (h:w.ownsRow base 3 1 v L.length (vI L)) :
  Calls Tryz.prog 114 #[v] w fun e w'=>e = .returned (.tuple #[])∧w'.ownsRow base 3 1 v (L.mergeSort fun x y=>decide (x≤y)).length (vI (L.mergeSort fun x y=>decide (x≤y)))∧w.grownBy w' v.ownBlock:=by
 rcases h.2 with ⟨hv,h0⟩ | ⟨g,cap,cur,hv,hbg,hg,hrest⟩
 ·have hl0:L=[]:=List.length_eq_zero_iff.1 h0
  subst hl0
  have hcon:=Tryz.slices_Sort_int_none none 0 w
  rw [← hv] at hcon
  refine hcon.mono ?_
  rintro e w' ⟨rfl,rfl⟩
  exact ⟨rfl,by simpa using h,World.grownBy.refl _ _⟩
 ·have h':=h
  rw [hv] at h'
  have hH:=holdsE_row (enc:=Value.int .i64) h'
  have hcon:=Tryz.slices_Sort_int g 0 cap L w hH.1 hH.2.1 (by omega)
  rw [← hv] at hcon
  refine hcon.mono ?_
  rintro e w' ⟨rfl,n,os,rfl⟩
  refine ⟨rfl,?_,?_⟩
  ·have:=rowE_put (enc:=Value.int .i64) (n:=n) (os:=os) (k:=(L.mergeSort fun x y=>decide (x≤y)).length) (d':=(L.mergeSort fun x y=>decide (x≤y)).toArray) (by simp) (by simp) h'
   simp only [List.take_length] at this
   rw [hv]
   rw [List.length_mergeSort] at this ⊢
   exact this
  ·rw [hv]; exact rowE_grown
theorem compR_any (L:List Int) (hn:L.length≤1000000000) (base:Nat) (v:Value) (w:World) (h:w.ownsRow base 3 1 v L.length (vI L)) :
  Calls Tryz.prog 115 #[v] w fun e w'=>∃ v',e = .returned v'∧w'.ownsRow base 3 1 v' (Lib.compact L).length (vI (Lib.compact L))∧w.grownBy w' v.ownBlock:=by
 rcases h.2 with ⟨hv,h0⟩ | ⟨g,cap,cur,hv,hbg,hg,hrest⟩
 ·have hl0:L=[]:=List.length_eq_zero_iff.1 h0
  subst hl0
  have hcon:=Tryz.slices_Compact_int_empty none 0 w
  rw [← hv] at hcon
  refine hcon.mono ?_
  rintro e w' ⟨rfl,rfl⟩
  exact ⟨_,rfl,by simpa [Lib.compact,Lib.compactUpTo] using h,World.grownBy.refl _ _⟩
 ·have h':=h
  rw [hv] at h'
  have hH:=holdsE_row (enc:=Value.int .i64) h'
  have hcon:=Tryz.slices_Compact_int g 0 cap L w hH.1 (by omega) hH.2.2
  rw [← hv] at hcon
  have hle:(Lib.compact L).length≤L.length:=by
   unfold Lib.compact Lib.compactUpTo
   rw [List.length_map]
   exact Nat.le_trans (List.length_filter_le _ _) (by simp)
  refine hcon.mono ?_
  rintro e w' ⟨rfl,q,rfl⟩
  refine ⟨_,rfl,?_,?_⟩
  ·have:=rowE_put (enc:=Value.int .i64) (n:=q) (os:=#[]) (k:=(Lib.compact L).length) (d':=(Lib.compact L ++ List.replicate (L.length - (Lib.compact L).length) 0).toArray) (by simp; omega) (by simp) h'
   rw [grow_none] at this
   simpa using this
  ·rw [hv]
   have hgw:=rowE_grown (enc:=Value.int .i64) (W:=w) (g:=g) (n:=q) (d:=(Lib.compact L ++ List.replicate (L.length - (Lib.compact L).length) 0).toArray) (os:=#[])
   rw [grow_none] at hgw
   exact hgw
set_option maxRecDepth 100000 in
theorem isIx_any (XB:Nat) (k i t:Int) (j:Int) (W:World) (hb:Blk W XB 74 #[.int .i64 k,.int .i64 i,.int .i64 t]) :
  Calls Tryz.prog 113 #[.int .i64 j,.pointer (some ⟨XB,0,none⟩)] W fun e w'=>e = .returned (.bool (decide (j=i)))∧∃ q,w'=W.drewN q:=by
 have x1:W.cell? ⟨XB,1,none⟩=some (.int .i64 i):=hb.cell 1
 go_enter Tryz.func113,Tryz.ntmps113
 go_wp2
 go_ret
 refine ⟨ret_b ?_,0,rfl⟩
 rfl
theorem delR_any (L:List Int) (hn:L.length≤1000000000) (base:Nat) (v:Value) (XB:Nat) (k i t:Int) (w:World) (hb:Blk w XB 74 #[.int .i64 k,.int .i64 i,.int .i64 t]) (h:w.ownsRow base 3 1 v L.length (vI L)) :
  Calls Tryz.prog 112 #[v,.func (.func 113) #[] #[.pointer (some ⟨XB,0,none⟩)]] w fun e w'=>∃ v',e = .returned v'∧w'.ownsRow base 3 1 v' (L.filter fun x=>!decide (x=i)).length (vI (L.filter fun x=>!decide (x=i)))∧w.grownBy w' v.ownBlock:=by
 rcases h.2 with ⟨hv,h0⟩ | ⟨g,cap,cur,hv,hbg,hg,hrest⟩
 ·have hp:L=[]:=List.length_eq_zero_iff.1 h0
  subst hp
  rw [hv] at h ⊢
  have HE:=Lib.hid (AnyE.slices_IndexFunc_empty (P:=Tryz.prog) (ρ:=Tryz.delInts_ren) { Tryz.delInts with } none 0 (.func (.func 113) #[] #[.pointer (some ⟨XB,0,none⟩)]) w)
  have HR:=Lib.hid h
  clear h hn hv hb
  go_enter Tryz.func112,Tryz.ntmps112
  go_wp2_with fail
  refine HE.out.mono ?_
  rintro e w' ⟨rfl,rfl⟩
  go_wp2
  go_ret
  exact ⟨_,rfl,HR.out,World.grownBy.refl _ _⟩
 ·have h':=h
  rw [hv] at h'
  have hH:=holdsE_row (enc:=Value.int .i64) h'
  have hne:some g≠some XB:=fun e=>by
   rw [← Option.some.inj e] at hb
   rw [show w.heap[g]?=_ from hb] at hg
   cases hg
  have eg:∀ args w,(callFunc 113 args).run Tryz.prog w = .ok (.enter 113 args) w:=enters_of Tryz.func113 (by kernel_rfl) rfl
  have hcon:=AnyE.slices_DeleteFunc Tryz.delInts (Value.int .i64) (fun _=>rfl) (fun x=>decide (x=i)) 113 #[.pointer (some ⟨XB,0,none⟩)] eg 0 (fun w=>by kernel_rfl) g 0 cap L.toArray w
   (fun W' x hb'=>isIx_any XB k i t x W' (hb.below hb')) (fun n os dk x _=>isIx_any XB k i t x _ (hb.grown (rowE_grown (enc:=Value.int .i64) (W:=w) (g:=g) (n:=n) (d:=dk) (os:=os)) hne)) hH.1 (by simp; omega) (by simpa using hH.2.2)
  change Calls Tryz.prog 112 _ _ _ at hcon
  rw [show L.toArray.size=L.length by simp,← hv] at hcon
  refine hcon.mono ?_
  rintro e w' ⟨rfl,q,rfl⟩
  obtain ⟨F,hF⟩:∃ F,L.filter (fun x=>!decide (x=i))=F:=⟨_,rfl⟩
  have hFl:F.length≤L.length:=by rw [← hF]; exact List.length_filter_le _ _
  have hF2:(L.toArray.toList.filter fun x=>!decide (x=i))=F:=hF
  rw [hF2]
  refine ⟨_,rfl,?_,?_⟩
  ·have:=rowE_put (enc:=Value.int .i64) (n:=q) (os:=#[]) (k:=F.length) (d':=(F ++ List.replicate (L.length - F.length) (0:Int)).toArray) (by simp; omega) (by simp) h'
   rw [grow_none] at this
   simpa using this
  ·rw [hv]
   have hgw:=rowE_grown (enc:=Value.int .i64) (W:=w) (g:=g) (n:=q) (d:=(F ++ List.replicate (L.length - F.length) (0:Int)).toArray) (os:=#[])
   rw [grow_none] at hgw
   exact hgw
theorem cloneR_any (l:List Int) (hn:l.length≤1000000) (v:Value) (w:World) (hv:ARd w v 1 (l.map iC)) :
  Calls Tryz.prog 111 #[v] w fun e w'=>∃ v',e = .returned v'∧w'.ownsRow w.heap.size 3 1 v' l.length (vI l)∧Below w.heap.size w w':=by
 cases l with
 | nil =>
  obtain ⟨a,c,ev⟩:=hv.form
  have ev2:v = .slice a 0 c:=ev
  subst ev2
  cases a with
  | none =>
   refine (Tryz.slices_Clone_int_nil 0 c w).mono ?_
   rintro e w' ⟨rfl,rfl⟩
   exact ⟨_,rfl,World.ownsRow_nil _ _ _ _,Below.refl _ _⟩
  | some a =>
   refine (Tryz.slices_Clone_int_zero a c w).mono ?_
   rintro e w' ⟨v',rfl,h1,_,h2⟩
   exact ⟨v',rfl,h1,h2⟩
 | cons x l =>
  obtain ⟨b,o,c,ev,hlt,_⟩:=hv.intAt 0 (by simp)
  have h:=Tryz.slices_Clone_int b o (x :: l).length c (x :: l) w (Nat.le_refl _) (by omega) (fun j hj=>by
   obtain ⟨b',o',c',ev',_,hc⟩:=hv.intAt j hj
   rw [ev] at ev'
   obtain ⟨rfl,rfl⟩:=slice_inj ev'
   rw [getD_int hj]
   exact hc)
  rw [← ev,List.take_length] at h
  refine h.mono ?_
  rintro e w' ⟨v',rfl,h1,_,h2⟩
  exact ⟨v',rfl,h1,h2⟩
end Go.Proofs.YteflhbfgpknabaaGreatDoor
namespace Go.Proofs.YteflhbfgpknabaaGreatDoor
open Go.RowKit Go.Shelf
theorem int1_info:(Tryz.prog.info? 3).map (fun i=>(i.zero,i.size,i.bytes))=some (some (.int .i64 0),1,8):=by kernel_rfl
theorem chg_len (l:List Int) (F:List Ft) (al:Int):∀ k,(chgM l F al k).length≤l.length + k
 | 0=>Nat.le_refl _
 | k + 1=>by
  have ih:=chg_len l F al k
  rw [chgM]
  split
  ·split
   ·rw [List.length_append,List.length_singleton]; omega
   ·split
    ·exact Nat.le_trans (List.length_filter_le _ _) (by omega)
    ·omega
  ·omega
theorem chg_next {l:List Int} {F:List Ft} {al:Int} {k:Nat} (hk:k < F.length):chgM l F al (k + 1)=if F[k].1=al then chgM l F al k ++ [F[k].2.1] else if F[k].1=al + 1 then (chgM l F al k).filter fun i=>!decide (i=F[k].2.1) else chgM l F al k:=by
 rw [chgM,List.getElem?_eq_getElem hk]
theorem owns_le {W:World} {base size n r:Nat} {t:TypeId} {v:Value} {xs:List Value} (h:W.ownsRow base t size v n xs) (hv:v.ownBlock=some r):base≤r:=by
 obtain ⟨_,⟨rfl,_⟩ | ⟨g,cap,cur,rfl,e2,_⟩⟩:=h
 ·cases hv
 ·cases hv
  exact e2
def ChgR (l:List Int) (F:List Ft) (al:Int) (w:World) (e:Ending) (w':World):Prop:=∃ (v':Value) (m:List Int),e = .returned v'∧w'.ownsRow w.heap.size 3 1 v' m.length (vI m)∧m.Pairwise (· < ·)∧(∀ x,x∈m ↔ x∈chgM l F al F.length)∧Below w.heap.size w w'
set_option maxRecDepth 100000 in
set_option maxHeartbeats 6400000 in
theorem changed_any (l:List Int) (v:Value) (F:List Ft) (fv:Value) (al:Int) (ha:al=3∨al=5) (hl:l.length≤1000) (hF:F.length≤10) (w:World) (hv:ARd w v 1 (l.map iC)) (hfv:ARd w fv 3 (F.map ftC)) :
  Calls Tryz.prog 76 #[v,fv,.int .i64 al] w (ChgR l F al w):=by
 obtain ⟨i0,hi0,hz0,hz1,hz2⟩:=info_parts int1_info
 obtain ⟨af,cf,ev⟩:=hfv.ftForm
 subst ev
 have HFV:=Lib.hid hfv
 have HCL:=Lib.hid (cloneR_any l (by omega) v w hv)
 have ea:IntKind.i64.wrap (al + 1)=al + 1:=IntWalk.i64_in _ (by omega)
 clear hv hfv
 go_enter Tryz.func76,Tryz.ntmps76
 go_wp2_with fail
 refine HCL.out.mono ?_
 rintro e W1 ⟨v1,rfl,hrow,hb1⟩
 have HR0:=Lib.hid (show W1.ownsRow w.heap.size 3 1 v1 (chgM l F al 0).length (vI (chgM l F al 0)) from hrow)
 have HB0:=Lib.hid hb1
 clear hrow hb1 HCL
 go_wp2
 go_loopw [7,14] (fun u x wr=>∃ k:Nat,k≤F.length∧x = .int .i64 k∧RowKit.Hid (wr.ownsRow w.heap.size 3 1 u (chgM l F al k).length (vI (chgM l F al k)))∧RowKit.Hid (Below w.heap.size w wr)) (fun _ x _=>F.length - (intOf x).toNat)
 case atStart=>exact ⟨0,Nat.zero_le _,rfl,HR0,HB0⟩
 clear HR0 HB0
 obtain ⟨k,hk,rfl,hR,hB⟩:=hrel
 by_cases hkl:k < F.length
 ·have hk2:(k:Int) < (F.length:Int):=by omega
  obtain ⟨b,o,c',ev,hbl,q0,q1,q2⟩:=(HFV.out.later hB.out).ftAt k hkl
  cases ev
  have HN:=Lib.hid (chg_next (l:=l) (al:=al) hkl)
  have hML:=chg_len l F al k
  obtain ⟨x,hx⟩:∃ x,F[k]=x:=⟨_,rfl⟩
  rw [hx] at q0 q1 q2 HN
  obtain ⟨x1,x2,x3⟩:=x
  simp only at q0 q1 q2 HN
  obtain ⟨M,hM⟩:∃ M,chgM l F al k=M:=⟨_,rfl⟩
  rw [hM] at hR HN hML
  clear hx hM
  go_upto_region 5 with fail
  have hb4:Below wr.heap.size wr (wr.alloc (.cells #[.int .i64 x1,.int .i64 x2,.int .i64 x3] 74)):=(Below.refl _ wr).alloc (Nat.le_refl _) _
  have HR4:=Lib.hid (row_later hR.out hb4)
  have HB4:=Lib.hid (below_step hB.out hb4)
  have hk4:=Blk.new wr 74 #[.int .i64 x1,.int .i64 x2,.int .i64 x3]
  obtain ⟨X,hXe⟩:∃ X,wr.heap.size=X:=⟨_,rfl⟩
  rw [hXe] at hk4 ⊢
  generalize wr.alloc (.cells #[.int .i64 x1,.int .i64 x2,.int .i64 x3] 74)=W4 at *
  have K4:=Lib.hid hk4
  have y0:W4.cell? ⟨X,0,none⟩=some (.int .i64 x1):=hk4.cell 0
  have y1:W4.cell? ⟨X,1,none⟩=some (.int .i64 x2):=hk4.cell 1
  clear hb4 hk4 hXe hR hB q0 q1 q2
  have hsz:=HB4.out.size
  by_cases h1:x1=al
  ·have d1:(x1 == al)=true:=by rw [h1]; exact beq_self_eq_true _
   have HN2:=Lib.hid (HN.out.trans (if_pos h1))
   clear h1 HN
   go_wp2_with (at_builtin; refine wpList_append_lies _ rfl _ _ 30 rfl w.heap.size 3 i0 _ 1 8 Tryz.underlying30 hi0 hz0 hz1 hz2 rfl (by omega) _ _ _ rfl (HR4.out.alloc _) ⟨W4.heap.size,0,none⟩ 1 1 [.int .i64 x2] rfl rfl (World.news_of_block (cs:=#[.int .i64 x2]) (t:=3) (fr:=(0,0)) (heap_alloc_new W4 _)) (by simp [Value.oneCell']) (by omega) (by unfold maxLen; omega) (by omega) (by simp; omega) (W4.heap.size + 1) (by simp) ?_; intro gg cap w5 hown3 hgrow hat3 hlt3)
   have HB5:=Lib.hid (push_low HB4.out HR4.out hgrow)
   have HR5:=Lib.hid (show w5.ownsRow w.heap.size 3 1 (.slice (some ⟨gg,0,none⟩) (M.length + 1) cap) (chgM l F al (k + 1)).length (vI (chgM l F al (k + 1))) from by
    rw [HN2.out,List.length_append,List.length_singleton]
    simpa [vI] using hown3)
   clear hown3 hgrow hat3 hlt3
   go_wp2
   go_roundw
   case rel=>exact ⟨k + 1,by omega,by go_num,HR5,HB5⟩
   case measure=>simp [intOf]; omega
  have d1:(x1 == al)=false:=by rw [beq_eq_false_iff_ne]; exact h1
  by_cases h2:x1=al + 1
  ·have d2:(x1 == al + 1)=true:=by rw [h2]; exact beq_self_eq_true _
   have HN2:=Lib.hid (HN.out.trans ((if_neg h1).trans (if_pos h2)))
   have HDL:=Lib.hid (delR_any M (by omega) w.heap.size u7 X x1 x2 x3 W4 K4.out HR4.out)
   clear h1 h2 HN
   go_wp2_with fail
   refine HDL.out.mono ?_
   rintro e W5 ⟨v5,rfl,hr5,hg5⟩
   have HB5:=Lib.hid (HB4.out.grown hg5 HB4.out.size (fun r e=>owns_le HR4.out e))
   have HR5:=Lib.hid (show W5.ownsRow w.heap.size 3 1 v5 (chgM l F al (k + 1)).length (vI (chgM l F al (k + 1))) from by rw [HN2.out]; exact hr5)
   clear hr5 hg5 HDL
   go_wp2
   go_roundw
   case rel=>exact ⟨k + 1,by omega,by go_num,HR5,HB5⟩
   case measure=>simp [intOf]; omega
  ·have d2:(x1 == al + 1)=false:=by rw [beq_eq_false_iff_ne]; exact h2
   have HR5:=Lib.hid (show W4.ownsRow w.heap.size 3 1 u7 (chgM l F al (k + 1)).length (vI (chgM l F al (k + 1))) from by rw [HN.out.trans ((if_neg h1).trans (if_neg h2))]; exact HR4.out)
   clear h1 h2 HN
   go_wp2
   go_roundw
   case rel=>exact ⟨k + 1,by omega,by go_num,HR5,HB4⟩
   case measure=>simp [intOf]; omega
 ·have hk2:¬ (k:Int) < (F.length:Int):=by omega
  have hke:k=F.length:=by omega
  rw [hke] at hR
  have hML:=chg_len l F al F.length
  have HSC:=Lib.hid (sort_compact (chgM l F al F.length))
  obtain ⟨M,hM⟩:∃ M,chgM l F al F.length=M:=⟨_,rfl⟩
  have HSO:=Lib.hid (sortR_any (chgM l F al F.length) (by omega) w.heap.size _ _ hR.out)
  clear hke
  go_wp2_with fail
  refine HSO.out.mono ?_
  rintro e W5 ⟨rfl,hr5,hg5⟩
  have HB5:=Lib.hid (hB.out.grown hg5 hB.out.size (fun r e=>owns_le hR.out e))
  have HCO:=Lib.hid (compR_any _ (by rw [List.length_mergeSort]; omega) w.heap.size _ _ hr5)
  have HR5:=Lib.hid hr5
  clear hr5 hg5 HSO hB hR
  go_wp2_with fail
  refine HCO.out.mono ?_
  rintro e W6 ⟨v6,rfl,hr6,hg6⟩
  have HB6:=Lib.hid (HB5.out.grown hg6 HB5.out.size (fun r e=>owns_le HR5.out e))
  have HR6:=Lib.hid hr6
  clear hr6 hg6 HCO
  go_wp2
  go_ret
  exact ⟨v6,_,rfl,HR6.out,HSC.out.1,HSC.out.2,HB6.out⟩
end Go.Proofs.YteflhbfgpknabaaGreatDoor
namespace Go.Proofs.YteflhbfgpknabaaGreatDoor
open Go.RowKit Go.Shelf
def drwB (l:List Int) (F:List Ft) (al:Int) (i:Int):Bool:=(decide (i∈l) || decide (((al,i,0):Ft)∈F)) && !(decide (((al + 1,i,0):Ft)∈F))
def drwL (l:List Int) (F:List Ft) (al:Int) (n:Nat):List Int:=((List.range n).map fun (i:Nat)=>(i:Int)).filter (drwB l F al)
theorem drwL_next (l:List Int) (F:List Ft) (al:Int) (n:Nat):drwL l F al (n + 1)=drwL l F al n ++ (if drwB l F al n then [(n:Int)] else []):=by
 unfold drwL
 rw [List.range_succ,List.map_append,List.filter_append,List.map_singleton]
 congr 1
 cases h:drwB l F al n with
 | true=>rw [List.filter_cons_of_pos (by simpa using h),List.filter_nil]; rfl
 | false=>rw [List.filter_cons_of_neg (by simp [h]),List.filter_nil]; rfl
theorem drwL_len (l:List Int) (F:List Ft) (al:Int) (n:Nat):(drwL l F al n).length≤n:=by
 unfold drwL
 refine Nat.le_trans (List.length_filter_le _ _) ?_
 rw [List.length_map,List.length_range]
 exact Nat.le_refl _
def DrwR (m:List Int) (w:World) (e:Ending) (w':World):Prop:=∃ v',e = .returned v'∧w'.ownsRow w.heap.size 3 1 v' m.length (vI m)∧Below w.heap.size w w'
set_option maxRecDepth 100000 in
set_option maxHeartbeats 6400000 in
theorem drawn30_any (l:List Int) (v:Value) (n:Nat) (al:Int) (ha:al=3∨al=5) (F:List Ft) (fv:Value) (hl:l.length≤1000) (hn:n≤1000) (hF:F.length≤1000000) (w:World) (hv:ARd w v 1 (l.map iC)) (hfv:ARd w fv 3 (F.map ftC)) :
  Calls Tryz.prog 81 #[v,.int .i64 n,.int .i64 al,fv] w (DrwR (drwL l F al n) w):=by
 obtain ⟨i0,hi0,hz0,hz1,hz2⟩:=info_parts int1_info
 obtain ⟨af,cf,ev⟩:=hfv.ftForm
 subst ev
 obtain ⟨av,cv,ev⟩:=hv.intForm
 subst ev
 have HV:=Lib.hid hv
 have HIN:=Lib.hid (fun (W:World) (hb:Below w.heap.size w W) (a b c:Int)=>in30_any F (.slice af F.length cf) a b c W hF (hfv.later hb))
 have HR0:=Lib.hid (show w.ownsRow w.heap.size 3 1 (.slice none 0 0) (drwL l F al 0).length (vI (drwL l F al 0)) from World.ownsRow_nil _ _ _ _)
 have HB0:=Lib.hid (Below.refl w.heap.size w)
 have ea:IntKind.i64.wrap (al + 1)=al + 1:=IntWalk.i64_in _ (by omega)
 clear hv hfv
 go_enter Tryz.func81,Tryz.ntmps81
 go_wp2
 go_loopw [9,10] (fun u x wr=>∃ i:Nat,i≤n∧x = .int .i64 i∧RowKit.Hid (wr.ownsRow w.heap.size 3 1 u (drwL l F al i).length (vI (drwL l F al i)))∧RowKit.Hid (Below w.heap.size w wr)) (fun _ x _=>n - (intOf x).toNat)
 case atStart=>exact ⟨0,Nat.zero_le _,rfl,HR0,HB0⟩
 clear HR0 HB0
 obtain ⟨i,hi,rfl,hR,hB⟩:=hrel
 by_cases hin:i < n
 ·have hi2:(i:Int) < (n:Int):=by omega
  have hML:=drwL_len l F al i
  have HNX:=Lib.hid (drwL_next l F al i)
  obtain ⟨M,hM⟩:∃ M,drwL l F al i=M:=⟨_,rfl⟩
  rw [hM] at hR HNX hML
  clear hM
  have HX:=Lib.hid (HV.out.later hB.out)
  go_wp2
  go_loopw [11,12] (fun q y wr2=>∃ k:Nat,k≤l.length∧q = .bool (decide ((i:Int)∈l.take k))∧y = .int .i64 k∧wr2=wr) (fun _ y _=>l.length - (intOf y).toNat)
  case atStart=>exact ⟨0,Nat.zero_le _,by simp,rfl,rfl⟩
  obtain ⟨k,hk,rfl,rfl,rfl⟩:=hrel
  by_cases hkl:k < l.length
  ·have hk2:(k:Int) < (l.length:Int):=by omega
   obtain ⟨b,o,c',ev,_,q0⟩:=HX.out.intAt k hkl
   cases ev
   have HT:=Lib.hid (show decide ((i:Int)∈l.take (k + 1))=(decide ((i:Int)∈l.take k) || (l[k] == (i:Int))) from by
    rw [List.take_succ_eq_append_getElem hkl,Bool.eq_iff_iff,Bool.or_eq_true,decide_eq_true_iff,decide_eq_true_iff,beq_iff_eq,List.mem_append,List.mem_singleton,eq_comm (a:=(i:Int))])
   obtain ⟨z,hz⟩:∃ z,l[k]=z:=⟨_,rfl⟩
   rw [hz] at q0 HT
   clear hz
   obtain ⟨q,hq⟩:∃ q,decide ((i:Int)∈l.take k)=q:=⟨_,rfl⟩
   rw [hq] at HT ⊢
   clear hq
   cases q with
   | true =>
    go_wp2
    go_roundw
    case rel=>exact ⟨k + 1,by omega,by rw [HT.out]; rfl,by go_num,trivial⟩
    case measure=>simp [intOf]; omega
   | false =>
    go_wp2
    go_roundw
    case rel=>exact ⟨k + 1,by omega,by rw [HT.out]; rfl,by go_num,trivial⟩
    case measure=>simp [intOf]; omega
  have hk2:¬ (k:Int) < (l.length:Int):=by omega
  have hke:k=l.length:=by omega
  have HK:=Lib.hid (show decide ((i:Int)∈l.take k)=decide ((i:Int)∈l) by rw [hke,List.take_length])
  rw [HK.out]
  clear HK hke
  have HR5:=Lib.hid hR.out
  have HB5:=Lib.hid hB.out
  clear hR hB HX
  cases hq:decide ((i:Int)∈l) with
  | true =>
   go_wp2_with fail
   refine (HIN.out _ HB5.out (al + 1) i 0).mono ?_
   rintro e W6 ⟨rfl,hb6⟩
   have HR6:=Lib.hid (row_later HR5.out hb6)
   have HB6:=Lib.hid (below_step HB5.out hb6)
   clear hb6 HR5 HB5
   have hsz:=HB6.out.size
   cases hr2:decide (((al + 1,(i:Int),0):Ft)∈F) with
   | true =>
    have HN2:=Lib.hid (show drwL l F al (i + 1)=M from by rw [HNX.out,show drwB l F al i=false from by unfold drwB; rw [hr2,Bool.not_true,Bool.and_false]]; simp)
    clear hr2 HNX
    go_wp2
    go_roundw
    case rel=>exact ⟨i + 1,by omega,by go_num,by rw [HN2.out]; exact HR6,HB6⟩
    case measure=>simp [intOf]; omega
   | false =>
    have HN2:=Lib.hid (show drwL l F al (i + 1)=M ++ [(i:Int)] from by rw [HNX.out,show drwB l F al i=true from by unfold drwB; rw [hr2,hq,Bool.true_or,Bool.not_false,Bool.true_and]; try rfl]; simp)
    clear hr2 HNX
    go_wp2_with (at_builtin; refine wpList_append_lies _ rfl _ _ 30 rfl w.heap.size 3 i0 _ 1 8 Tryz.underlying30 hi0 hz0 hz1 hz2 rfl (by omega) _ _ _ rfl (HR6.out.alloc _) ⟨W6.heap.size,0,none⟩ 1 1 [.int .i64 (i:Int)] rfl rfl (World.news_of_block (cs:=#[.int .i64 (i:Int)]) (t:=3) (fr:=(0,0)) (heap_alloc_new W6 _)) (by simp [Value.oneCell']) (by omega) (by unfold maxLen; omega) (by omega) (by simp; omega) (W6.heap.size + 1) (by simp) ?_; intro gg cap w7 hown3 hgrow hat3 hlt3)
    have HB7:=Lib.hid (push_low HB6.out HR6.out hgrow)
    have HR7:=Lib.hid (show w7.ownsRow w.heap.size 3 1 (.slice (some ⟨gg,0,none⟩) (M.length + 1) cap) (drwL l F al (i + 1)).length (vI (drwL l F al (i + 1))) from by
     rw [HN2.out,List.length_append,List.length_singleton]
     simpa [vI] using hown3)
    clear hown3 hgrow hat3 hlt3
    go_wp2
    go_roundw
    case rel=>exact ⟨i + 1,by omega,by go_num,HR7,HB7⟩
    case measure=>simp [intOf]; omega
  | false =>
   go_wp2_with fail
   refine (HIN.out _ HB5.out al i 0).mono ?_
   rintro e W4 ⟨rfl,hb4⟩
   replace HR5:=Lib.hid (row_later HR5.out hb4)
   replace HB5:=Lib.hid (below_step HB5.out hb4)
   clear hb4
   cases hr1:decide (((al,(i:Int),0):Ft)∈F) with
   | true =>
    go_wp2_with fail
    refine (HIN.out _ HB5.out (al + 1) i 0).mono ?_
    rintro e W6 ⟨rfl,hb6⟩
    have HR6:=Lib.hid (row_later HR5.out hb6)
    have HB6:=Lib.hid (below_step HB5.out hb6)
    clear hb6 HR5 HB5
    have hsz:=HB6.out.size
    cases hr2:decide (((al + 1,(i:Int),0):Ft)∈F) with
    | true =>
     have HN2:=Lib.hid (show drwL l F al (i + 1)=M from by rw [HNX.out,show drwB l F al i=false from by unfold drwB; rw [hr2,Bool.not_true,Bool.and_false]]; simp)
     clear hr2 HNX
     go_wp2
     go_roundw
     case rel=>exact ⟨i + 1,by omega,by go_num,by rw [HN2.out]; exact HR6,HB6⟩
     case measure=>simp [intOf]; omega
    | false =>
     have HN2:=Lib.hid (show drwL l F al (i + 1)=M ++ [(i:Int)] from by rw [HNX.out,show drwB l F al i=true from by unfold drwB; rw [hr2,hq,hr1,Bool.false_or,Bool.not_false,Bool.true_and]; try rfl]; simp)
     clear hr2 HNX
     go_wp2_with (at_builtin; refine wpList_append_lies _ rfl _ _ 30 rfl w.heap.size 3 i0 _ 1 8 Tryz.underlying30 hi0 hz0 hz1 hz2 rfl (by omega) _ _ _ rfl (HR6.out.alloc _) ⟨W6.heap.size,0,none⟩ 1 1 [.int .i64 (i:Int)] rfl rfl (World.news_of_block (cs:=#[.int .i64 (i:Int)]) (t:=3) (fr:=(0,0)) (heap_alloc_new W6 _)) (by simp [Value.oneCell']) (by omega) (by unfold maxLen; omega) (by omega) (by simp; omega) (W6.heap.size + 1) (by simp) ?_; intro gg cap w7 hown3 hgrow hat3 hlt3)
     have HB7:=Lib.hid (push_low HB6.out HR6.out hgrow)
     have HR7:=Lib.hid (show w7.ownsRow w.heap.size 3 1 (.slice (some ⟨gg,0,none⟩) (M.length + 1) cap) (drwL l F al (i + 1)).length (vI (drwL l F al (i + 1))) from by
      rw [HN2.out,List.length_append,List.length_singleton]
      simpa [vI] using hown3)
     clear hown3 hgrow hat3 hlt3
     go_wp2
     go_roundw
     case rel=>exact ⟨i + 1,by omega,by go_num,HR7,HB7⟩
     case measure=>simp [intOf]; omega
   | false =>
    have HN2:=Lib.hid (show drwL l F al (i + 1)=M from by rw [HNX.out,show drwB l F al i=false from by unfold drwB; rw [hq,hr1]; rfl]; simp)
    clear hq hr1 HNX
    go_wp2
    go_roundw
    case rel=>exact ⟨i + 1,by omega,by go_num,by rw [HN2.out]; exact HR5,HB5⟩
    case measure=>simp [intOf]; omega
 ·have hi2:¬ (i:Int) < (n:Int):=by omega
  have hie:i=n:=by omega
  rw [hie] at hR
  clear hie
  go_wp2
  go_ret
  exact ⟨_,rfl,hR.out,hB.out⟩
end Go.Proofs.YteflhbfgpknabaaGreatDoor
namespace Go.Proofs.YteflhbfgpknabaaGreatDoor
theorem drw_on {_S:Sp} {F:List Ft} {H:Hn} {k:Int} {n:Nat} {l:List Int} (hk:(k=2∧l=H.ss)∨(k=3∧l=H.cs)):drwL l F (2 * k - 1) n=onL (onF F (onH H)) k n:=by
 unfold drwL onL
 refine List.filter_congr fun i _=>?_
 rw [Bool.eq_iff_iff]
 rcases hk with ⟨rfl,rfl⟩ | ⟨rfl,rfl⟩
 ·rw [decide_eq_true_iff,onF_stop,onH_stop]
  unfold drwB
  rw [show (2 * 2 - 1:Int)=3 from rfl,show (3 + 1:Int)=4 from rfl]
  by_cases a:((4,i,0):Ft)∈F <;> by_cases b:((3,i,0):Ft)∈F <;> by_cases c:i∈H.ss <;> simp [a,b,c]
 ·rw [decide_eq_true_iff,onF_cou,onH_cou]
  unfold drwB
  rw [show (2 * 3 - 1:Int)=5 from rfl,show (5 + 1:Int)=6 from rfl]
  by_cases a:((6,i,0):Ft)∈F <;> by_cases b:((5,i,0):Ft)∈F <;> by_cases c:i∈H.cs <;> simp [a,b,c]
end Go.Proofs.YteflhbfgpknabaaGreatDoor
namespace Go.Proofs.YteflhbfgpknabaaGreatDoor
open Go.RowKit Go.Shelf
structure BsI (l:List Pp) (p:Pp) (i j:Nat):Prop where
 le:i≤j
 len:j≤l.length
 lo:∀ k (hk:k < l.length),k < i→ppLt l[k] p
 hi:∀ k (hk:k < l.length),j≤k→¬ ppLt l[k] p
theorem BsI.up {l:List Pp} {p:Pp} {i j h:Nat} (b:BsI l p i j) (hs:l.Pairwise ppLt) (h1:i≤h) (h2:h < j) (hl:h < l.length) (hc:ppLt l[h] p):BsI l p (h + 1) j :=
 ⟨by omega,b.len,fun k hk hkh=>by
  by_cases e:k=h
  ·subst e; exact hc
  ·exact ppLt_trans (List.pairwise_iff_getElem.1 hs k h hk hl (by omega)) hc,b.hi⟩
theorem BsI.down {l:List Pp} {p:Pp} {i j h:Nat} (b:BsI l p i j) (hs:l.Pairwise ppLt) (h1:i≤h) (h2:h < j) (hl:h < l.length) (hc:¬ ppLt l[h] p):BsI l p i h :=
 ⟨h1,by omega,b.lo,fun k hk hkh=>by
  by_cases e:k=h
  ·subst e; exact hc
  ·exact fun q=>hc (ppLt_trans (List.pairwise_iff_getElem.1 hs h k hl hk (by omega)) q)⟩
theorem hold4c {w W W':World} {p0 p1 p2 p3:Addr} {u0 u1 u2 u3:Value} (h:Below w.heap.size w W∧W.cell? p0=some u0∧W.cell? p1=some u1∧W.cell? p2=some u2∧W.cell? p3=some u3) (hb:Below W.heap.size W W'):Below w.heap.size w W'∧W'.cell? p0=some u0∧W'.cell? p1=some u1∧W'.cell? p2=some u2∧W'.cell? p3=some u3 :=
 ⟨below_step h.1 hb,(hb.cell (cell_size h.2.1)).trans h.2.1,(hb.cell (cell_size h.2.2.1)).trans h.2.2.1,(hb.cell (cell_size h.2.2.2.1)).trans h.2.2.2.1,(hb.cell (cell_size h.2.2.2.2)).trans h.2.2.2.2⟩
theorem BsI.mem {l:List Pp} {p:Pp} {i:Nat} (b:BsI l p i i) (hs:l.Pairwise ppLt):p∈l ↔ ∃ h:i < l.length,l[i]=p:=by
 constructor
 ·intro hp
  obtain ⟨k,hk,rfl⟩:=List.getElem_of_mem hp
  have h1:¬ k < i:=fun h=>ppLt_irrefl _ (b.lo k hk h)
  have h2:i < l.length:=by omega
  refine ⟨h2,?_⟩
  by_cases e:k=i
  ·subst e; rfl
  ·exact absurd (List.pairwise_iff_getElem.1 hs i k h2 hk (by omega)) (b.hi i h2 (Nat.le_refl _))
 ·rintro ⟨h,rfl⟩
  exact List.getElem_mem h
def BsE (l:List Pp) (p:Pp) (w:World) (e:Ending) (w':World):Prop:=∃ i:Nat,BsI l p i i∧e = .returned (.tuple #[.int .i64 i,.bool (decide (p∈l))])∧Below w.heap.size w w'
set_option maxRecDepth 100000 in
set_option maxHeartbeats 6400000 in
theorem search_any (l:List Pp) (hs:l.Pairwise ppLt) (v:Value) (a t:Int) (w:World) (hl:l.length≤1000000) (hv:ARd w v 2 (l.map ppC)) :
  Calls Tryz.prog 78 #[v,.agg #[.int .i64 a,.int .i64 t],.func (.func 42) #[] #[]] w (BsE l (a,t) w):=by
 obtain ⟨av,cv,ev⟩:=hv.form
 rw [List.length_map] at ev
 subst ev
 have hb0:Below w.heap.size w (w.alloc (.cells #[.int .i64 a,.int .i64 t] 78)):=(Below.refl _ _).alloc (Nat.le_refl _) _
 have HB0:=Lib.hid hb0
 have HK0:=Lib.hid (Blk.new w 78 #[.int .i64 a,.int .i64 t])
 have HV:=Lib.hid hv
 have HS:=Lib.hid hs
 have HI0:=Lib.hid (show BsI l (a,t) 0 l.length from ⟨Nat.zero_le _,Nat.le_refl _,fun _ _ h=>absurd h (by omega),fun _ _ h=>absurd h (by omega)⟩)
 clear hv hs hb0
 go_enter Tryz.func78,Tryz.ntmps78
 go_wp2
 generalize w.alloc (.cells #[.int .i64 a,.int .i64 t] 78)=W0 at *
 go_loopw [9,10] (fun x y wr=>∃ i j:Nat,x = .int .i64 i∧y = .int .i64 j∧i≤j∧j≤l.length∧RowKit.Hid (BsI l (a,t) i j)∧RowKit.Hid (Below w.heap.size w wr)∧RowKit.Hid (Blk wr w.heap.size 78 #[.int .i64 a,.int .i64 t])) (fun x y _=>(intOf y).toNat - (intOf x).toNat)
 case atStart=>exact ⟨0,l.length,rfl,rfl,Nat.zero_le _,Nat.le_refl _,HI0,HB0,HK0⟩
 clear HI0 HB0 HK0
 obtain ⟨i,j,rfl,rfl,hij,hjl,hI,hB,hK⟩:=hrel
 by_cases hlt:i < j
 ·have hlt2:(i:Int) < (j:Int):=by omega
  have e1:IntKind.i64.wrap ((i:Int) + (j:Int))=(i:Int) + (j:Int):=IntWalk.i64_in _ (by omega)
  go_upto_region 5 with fail
  obtain ⟨h,hh⟩:∃ h:Nat,((i:Int) + (j:Int)) / 2=(h:Int):=⟨(i + j) / 2,by omega⟩
  rw [hh]
  have hl1:i≤h:=by omega
  have hl2:h < j:=by omega
  have hl3:h < l.length:=by omega
  have hl4:(h:Int) < (l.length:Int):=by omega
  obtain ⟨b,o,c',ev,_,q0,q1⟩:=(HV.out.later hB.out).ppAt h hl3
  cases ev
  have HUP:=Lib.hid (fun hc=>hI.out.up HS.out hl1 hl2 hl3 hc)
  have HDN:=Lib.hid (fun hc=>hI.out.down HS.out hl1 hl2 hl3 hc)
  have z0:wr.cell? ⟨w.heap.size,0,none⟩=some (.int .i64 a):=hK.out.cell 0
  have z1:wr.cell? ⟨w.heap.size,1,none⟩=some (.int .i64 t):=hK.out.cell 1
  obtain ⟨x,hx⟩:∃ x,l[h]=x:=⟨_,rfl⟩
  rw [hx] at q0 q1 HUP HDN
  obtain ⟨x1,x2⟩:=x
  simp only at q0 q1
  have HLT:=Lib.hid (cfI_lt x1 x2 a t)
  have HB1:=Lib.hid (hB.out.drew)
  have HK1:=Lib.hid (hK.out.below (show Below wr.heap.size wr wr.drew from (Below.refl _ _).drew))
  clear hh hx e1
  go_still_tail 6,(by kernel_rfl)
  repeat still_step
  try refine wpStill_nil ?_
  try change wpList _ _ _ _ _ wr.drew
  generalize wr.drew=W1 at *
  clear q0 q1 z0 z1 hB hK hI
  go_wp2_with fail
  refine (byPipe_any x1 x2 a t _).mono ?_
  rintro e w2 ⟨rfl,hg⟩
  have HB3:=Lib.hid (below_step HB1.out hg.below)
  have HK3:=Lib.hid (HK1.out.below hg.below)
  clear hg HB1 HK1
  obtain ⟨z,hz⟩:∃ z,cfI x1 x2 a t=z:=⟨_,rfl⟩
  rw [hz] at HLT ⊢
  clear hz
  by_cases hzz:z < 0
  ·have d1:decide (z < 0)=true:=decide_eq_true hzz
   have HI2:=Lib.hid (HUP.out (HLT.out.1 hzz))
   clear hzz
   go_wp2
   go_roundw
   case rel=>exact ⟨h + 1,j,by go_num,rfl,by omega,by omega,HI2,HB3,HK3⟩
   case measure=>simp [intOf]; omega
  ·have d1:decide (z < 0)=false:=decide_eq_false hzz
   have HI2:=Lib.hid (HDN.out fun q=>hzz (HLT.out.2 q))
   clear hzz
   go_wp2
   go_roundw
   case rel=>exact ⟨i,h,rfl,by go_num,by omega,by omega,HI2,HB3,HK3⟩
   case measure=>simp [intOf]; omega
 ·have hlt2:¬ (i:Int) < (j:Int):=by omega
  have hje:i=j:=by omega
  subst hje
  have HM:=Lib.hid (hI.out.mem HS.out)
  have HI:=Lib.hid hI.out
  clear hI
  go_upto_region 8 with fail
  have HB1:=Lib.hid (hB.out.drew)
  by_cases hn:i < l.length
  ·have hl4:(i:Int) < (l.length:Int):=by omega
   obtain ⟨b,o,c',ev,_,q0,q1⟩:=(HV.out.later hB.out).ppAt i hn
   cases ev
   have HM2:=Lib.hid (show ((a,t):Pp)∈l ↔ l[i]=(a,t) from HM.out.trans ⟨fun ⟨_,h⟩=>h,fun h=>⟨hn,h⟩⟩)
   have z0:wr.cell? ⟨w.heap.size,0,none⟩=some (.int .i64 a):=hK.out.cell 0
   have z1:wr.cell? ⟨w.heap.size,1,none⟩=some (.int .i64 t):=hK.out.cell 1
   obtain ⟨x,hx⟩:∃ x,l[i]=x:=⟨_,rfl⟩
   rw [hx] at q0 q1 HM2
   obtain ⟨x1,x2⟩:=x
   simp only at q0 q1
   have HZ:=Lib.hid (cfI_zero x1 x2 a t)
   clear hx hn
   have HDZ:=Lib.hid (show (cfI x1 x2 a t == 0)=decide (((a,t):Pp)∈l) from by
    rw [Bool.eq_iff_iff,beq_iff_eq,decide_eq_true_iff,HZ.out,HM2.out]
    constructor
    ·rintro ⟨rfl,rfl⟩; rfl
    ·intro e; exact Prod.mk.inj e)
   have hdr:=hold4c ⟨hB.out,z0,z1,q0,q1⟩ (show Below wr.heap.size wr wr.drew from (Below.refl _ _).drew)
   clear z0 z1 q0 q1 hB hK
   go_region_held3 (fun w'=>Below w.heap.size w w'∧w'.cell? ⟨w.heap.size,0,none⟩=some (.int .i64 a)∧w'.cell? ⟨w.heap.size,1,none⟩=some (.int .i64 t)∧w'.cell? ⟨b,o + i * 2,none⟩=some (.int .i64 x1)∧w'.cell? ⟨b,o + i * 2 + 1,none⟩=some (.int .i64 x2)) (first | exact hdr | assumption) (first | (go_at_call 42; (with_reducible refine (byPipe_any x1 x2 a t _).mono ?_); rintro e w2 ⟨rfl,hg2⟩; have hn:=hold4c hdr hg2.below; clear hg2))
   all_goals (go_wp2; go_ret2; exact ⟨i,HI.out,by rw [← HDZ.out]; rfl,hn.1⟩)
  ·have hl4:¬ (i:Int) < (l.length:Int):=by omega
   have HD:=Lib.hid (show decide (((a,t):Pp)∈l)=false from decide_eq_false fun h=>hn (HM.out.1 h).1)
   clear hn
   clear hK HB1
   go_quiet (fail)
   have HB2:=Lib.hid (below_drewN hB.out nq)
   clear hB
   go_wp2
   go_ret2
   exact ⟨i,HI.out,by rw [HD.out]; rfl,HB2.out⟩
end Go.Proofs.YteflhbfgpknabaaGreatDoor
namespace Go.Proofs.YteflhbfgpknabaaGreatDoor
open Go.RowKit Go.Shelf Go.Lib
theorem run_copyK {P:Program} (w:World) (dT sT ty elem:TypeId) (k b o dLen dCap:Nat) (a:Addr) (sLen sCap:Nat) (cs:List Value)
  (hu:P.underlying dT=some (.slice elem)) (hs:(P.info? elem).map (·.size)=some k) (hn:cs.length=Nat.min sLen dLen * k)
  (hsrc:∀ j v,cs[j]?=some v→w.cell? (a.add j)=some v) (hc:∀ j,j < cs.length→(w.cell? ⟨b,o + j,none⟩).isSome=true) (hf:∀ j,j < cs.length→w.frozen? ⟨b,o + j,none⟩=false) (h1:∀ v∈cs,v.oneCell'=true) :
  (Builtin.copy_ #[dT,sT] ty #[.slice (some ⟨b,o,none⟩) dLen dCap,.slice (some a) sLen sCap]).run P w = .ok (goInt (Nat.min sLen dLen)) (w.setCells b o cs):=by
 have hl:=run_loadCells_list (P:=P) w a cs hsrc
 have hst:=run_storeCells_cells (P:=P) b o cs 0 w (by simpa using hc) (by simpa using hf) h1
 cases hq:P.info? elem with
 | none=>simp [hq] at hs
 | some i =>
  have hi:i.size=k:=by simpa [hq] using hs
  simp [Builtin.copy_,run_underlying hu,Builtin.lenOf,Builtin.firstCells,sizeOf,typeInfo,hq,hi,← hn,hl,hst]
theorem step_copyK {P:Program} {ops:Array Oper} {o:Oper} {a:Act} {w:World} {K:Act→World→Prop} {Q:Exit→Act→World→Prop} {E:Prop}
  (hg:o.guard=none) (d x:Operand) (dT sT:TypeId) (hop:o.op=Op.call { callee:=Callee.builtin Builtin.copy,args:=#[d,x],argTypes:=#[dT,sT] })
  (v u:Value) (hd:a.eval d=v) (hx:a.eval x=u) {v':Value} {w':World} (hr:(Builtin.copy_ #[dT,sT] o.type #[v,u]).run P w = .ok v' w') (hK:K (a.put o.dst v') w') :
  if Region.wanted o (yielded ops a.tmps)=true then Oper.wp P o a w K Q else E:=by
 have hw:Region.wanted o (yielded ops a.tmps)=true:=by simp [Region.wanted,hg]
 rw [if_pos hw]
 unfold Oper.wp
 simp [execOp,hop,resolve,invoke,builtin,hd,hx,hr,Result.andThen]
 exact hK
theorem pp_one (l:List Pp):∀ u∈(l.map ppC).flatten,u.oneCell'=true:=by
 intro u hu
 obtain ⟨r,hr,hu⟩:=List.mem_flatten.1 hu
 obtain ⟨p,_,rfl⟩:=List.mem_map.1 hr
 simp only [ppC,List.mem_cons,List.not_mem_nil,or_false] at hu
 rcases hu with rfl | rfl <;> rfl
def InP (base:Nat) (u:Value) (l:List Pp) (w:World) (e:Ending) (w':World):Prop:=∃ u',e = .returned u'∧w'.ownsRow base 78 2 u' l.length (l.map ppC).flatten∧w.grownBy w' u.ownBlock
set_option maxRecDepth 100000 in
set_option maxHeartbeats 3200000 in
theorem insertP_end (qs ms:List Pp) (hl:qs.length + ms.length≤40000) (hm:0 < ms.length) (base:Nat) (a b:Option Addr) (c d:Nat) (w:World) (hbase:base≤w.heap.size)
  (hu:w.ownsRow base 78 2 (.slice a qs.length c) qs.length (qs.map ppC).flatten) (_hnc:qs.length≤c)
  (hv:w.ownsRow base 78 2 (.slice b ms.length d) ms.length (ms.map ppC).flatten) :
  Calls Tryz.prog 79 #[.slice a qs.length c,.int .i64 qs.length,.slice b ms.length d] w (InP base (.slice a qs.length c) (qs ++ ms) w):=by
 obtain ⟨i0,hi0,hz0,hz1,hz2⟩:=info_parts pp_info
 obtain ⟨g2,cap2,e2,_,_⟩:=hv.form hm
 simp only [Value.slice.injEq] at e2
 obtain ⟨rfl,-,rfl⟩:=e2
 have hvc:∀ j v,((ms.map ppC).flatten)[j]?=some v→w.cell? ((⟨g2,0,none⟩:Addr).add j)=some v:=hv.cells rfl
 have hvl:((ms.map ppC).flatten).length=ms.length * 2:=hv.1
 obtain ⟨n,hn⟩:∃ n,qs.length=n:=⟨_,rfl⟩
 obtain ⟨m,hmm⟩:∃ m,ms.length=m:=⟨_,rfl⟩
 have HE:=Lib.hid (show (qs ++ ms).length=n + m by rw [List.length_append,hn,hmm])
 have HF:=Lib.hid (show ((qs ++ ms).map ppC).flatten=(qs.map ppC).flatten ++ (ms.map ppC).flatten by rw [List.map_append,List.flatten_append])
 rw [hn] at hu hl _hnc ⊢
 rw [hmm] at hv hl hm hvl ⊢
 have hm0:¬ ((m:Int)=0):=by omega
 have hm1:((m:Int) == 0)=false:=by rw [beq_eq_false_iff_ne]; exact hm0
 have HU:=Lib.hid hu
 have HVC:=Lib.hid hvc
 have HVL:=Lib.hid hvl
 clear hv hn hmm hu hvc hvl
 go_enter Tryz.func79,Tryz.ntmps79
 go_wp2_with (at_builtin; refine wpList_append_own _ rfl _ _ 50 rfl base 78 i0 _ 2 16 Tryz.underlying50 hi0 hz0 hz1 hz2 rfl (by omega) (.slice a n c) _ _ rfl HU.out ⟨g2,0,none⟩ m _ ((ms.map ppC).flatten) rfl HVL.out HVC.out (pp_one ms) (by unfold maxLen; omega) (by omega) hbase ?_; intro v' w1 hown' hgrow _)
 all_goals (go_ret; exact ⟨_,rfl,by rw [HE.out,HF.out]; exact hown',by cases a <;> exact hgrow⟩)
end Go.Proofs.YteflhbfgpknabaaGreatDoor
namespace Go.Proofs.YteflhbfgpknabaaGreatDoor
open Go.RowKit Go.Shelf Go.Lib
set_option maxRecDepth 100000 in
set_option maxHeartbeats 6400000 in
theorem insertP_shift (g n c i vb vc:Nat) (cs vs:List Value) (w:World) (hi:i < n) (hroom:n + 1≤c) (hc63:c≤9223372036854775807) (hvb:vb≠g)
  (hcl:cs.length=n * 2) (hvl:vs.length=2)
  (hcs:∀ j v,cs[j]?=some v→w.cell? ⟨g,j,none⟩=some v) (hsp:∀ j,j < (n + 1) * 2→(w.cell? ⟨g,j,none⟩).isSome=true) (hfz:∀ j,j < (n + 1) * 2→w.frozen? ⟨g,j,none⟩=false)
  (hvs:∀ j v,vs[j]?=some v→w.cell? ⟨vb,j,none⟩=some v) (h1c:∀ v∈cs,v.oneCell'=true) (h1v:∀ v∈vs,v.oneCell'=true)
  (tA tB:TypeId) (kA kB:Nat) (hsa:w.shape? vb=some (tA,kA)) (hsb:w.shape? g=some (tB,kB)) (hkB:kB≠0) (hfa:w.frozen? ⟨vb,0,none⟩=false) (hfe:w.frozen? ⟨vb,kA,none⟩=false) :
  Calls Tryz.prog 79 #[.slice (some ⟨g,0,none⟩) n c,.int .i64 i,.slice (some ⟨vb,0,none⟩) 1 vc] w fun e w' =>
   e = .returned (.slice (some ⟨g,0,none⟩) (n + 1) c)∧w'=(w.drew.setCells g ((i + 1) * 2) (cs.drop (i * 2))).setCells g (i * 2) vs:=by
 have hz2:¬ ((i:Int)=(n:Int)):=by omega
 have hsz:(Tryz.prog.info? 78).map (·.size)=some 2:=by kernel_rfl
 have hov:∀ o lb cb,(callFunc 118 #[.slice (some ⟨vb,0,none⟩) 1 vc,.slice (some ⟨g,o,none⟩) lb cb]).run Tryz.prog w = .ok (.value (.bool false)) w:=fun o lb cb=>by
  rw [run_callFunc_extern Tryz.func118 (by kernel_rfl) (by kernel_rfl) (by kernel_rfl) (e:=Extern.SlicesOverlaps.overlaps #[50,50] #[4]) (by kernel_rfl),
   Lib.run_overlaps_apart w 50 4 78 Tryz.underlying50 2 Tryz.sizeOf78 ⟨vb,0,none⟩ ⟨g,o,none⟩ 1 vc lb cb hvb tA tB kA kB hsa hsb hkB hfa hfe]
  rfl
 have hdl:(cs.drop (i * 2)).length=(n - i) * 2:=by rw [List.length_drop,hcl]; omega
 have hw1:IntKind.i64.wrap ((i:Int) + 1)=(i:Int) + 1:=by rw [IntKind.wrap_i64]; omega
 have hw2:IntKind.i64.wrap ((n:Int) + 1)=(n:Int) + 1:=by rw [IntKind.wrap_i64]; omega
 have hb1:(0:Int)≤(i:Int) + 1:=by omega
 have mixed:Tryz.prog.follows .mixedOrders=true:=by kernel_rfl
 have hin:i≤n:=by omega
 have hb2:¬ (c=i + 1):=by omega
 have hb3:(i:Int)≤(n:Int) + 1:=by omega
 have hb4:¬ (c=i):=by omega
 have hb5:i≤n + 1:=by omega
 have htn:((i:Int) + 1).toNat=i + 1:=by omega
 have htn2:((n:Int) + 1).toNat=n + 1:=by omega
 have hcp1:∀ ty dc sc,(Builtin.copy_ #[50,50] ty #[.slice (some ⟨g,(i + 1) * 2,none⟩) (n - i) dc,.slice (some ⟨g,i * 2,none⟩) (n + 1 - i) sc]).run Tryz.prog w.drew = .ok (goInt (Nat.min (n + 1 - i) (n - i))) (w.drew.setCells g ((i + 1) * 2) (cs.drop (i * 2))):=fun ty dc sc =>
  run_copyK w.drew _ _ ty 78 2 g ((i + 1) * 2) (n - i) dc ⟨g,i * 2,none⟩ (n + 1 - i) sc (cs.drop (i * 2)) Tryz.underlying50 hsz (by rw [hdl]; simp only [Nat.min_def]; split <;> omega)
   (fun j v hj=>by rw [Addr.add_lit]; exact hcs (i * 2 + j) v (by rwa [List.getElem?_drop] at hj))
   (fun j hj=>hsp _ (by omega)) (fun j hj=>hfz _ (by omega)) (fun v hv=>h1c v (List.mem_of_mem_drop hv))
 obtain ⟨W1,hW1⟩:∃ W1,W1=w.drew.setCells g ((i + 1) * 2) (cs.drop (i * 2)):=⟨_,rfl⟩
 have hsp1:∀ k,k < (n + 1) * 2→(W1.cell? ⟨g,k,none⟩).isSome=true:=fun k hk=>by
  rw [hW1]
  exact isSome_setCells g (cs.drop (i * 2)) ((i + 1) * 2) w.drew (fun j hj=>hsp _ (by omega)) _ (hsp k hk)
 have hcp2:∀ (W:World),(∀ x,W.cell? x=W1.cell? x)→(∀ x,W.frozen? x=W1.frozen? x)→∀ ty dc,(Builtin.copy_ #[50,50] ty #[.slice (some ⟨g,i * 2,none⟩) (n + 1 - i) dc,.slice (some ⟨vb,0,none⟩) 1 vc]).run Tryz.prog W = .ok (goInt (Nat.min 1 (n + 1 - i))) (W.setCells g (i * 2) vs):=fun W hWc hWf ty dc =>
  run_copyK W _ _ ty 78 2 g (i * 2) (n + 1 - i) dc ⟨vb,0,none⟩ 1 vc vs Tryz.underlying50 hsz (by rw [hvl]; simp only [Nat.min_def]; split <;> omega)
   (fun j v hj=>by
    rw [Addr.add_lit,hWc,hW1,World.cell?_setCells_out g _ _ _ _ (fun h _=>absurd h hvb),Nat.zero_add]
    exact hvs j v hj)
   (fun j hj=>by rw [hWc]; exact hsp1 _ (by omega)) (fun j hj=>by rw [hWf,hW1,World.frozen?_setCells]; exact hfz _ (by omega)) h1v
 rw [← hW1] at hcp1
 go_enter Tryz.func79,Tryz.ntmps79
 go_wp2_with (simp only [hov])
 go_region_law_o (refine step_copyK rfl _ _ 50 50 rfl (.slice (some ⟨g,(i + 1) * 2,none⟩) (n - i) (c - (i + 1))) (.slice (some ⟨g,i * 2,none⟩) (n + 1 - i) (c - i)) (by simp [Act.eval,Act.put]) (by simp [Act.eval,Act.put]) (hcp1 _ _ _) ?_)
 all_goals go_wp2_with (at_builtin; refine wpList_copyK _ rfl _ _ 50 50 rfl _ _ rfl rfl (hcp2 _ (fun _=>rfl) (fun _=>rfl) _ _) ?_)
 all_goals go_ret
 all_goals first | exact ⟨rfl,rfl⟩ | exact ⟨rfl,by rw [hW1]⟩
end Go.Proofs.YteflhbfgpknabaaGreatDoor
