/-
  A part of the proof: TQ, TN, TR, TP, TOd.
-/
import Derived.Test.YthhfmppealmblaaGreatDoorK25
import Derived.Test.YthhfmppealmblaaGreatDoorK23
import Derived.Test.YthhfmppealmblaaGreatDoorK22
import Derived.Test.YthhfmppealmblaaGreatDoorK19
namespace Go.Proofs.YthhfmppealmblaaGreatDoor
open Go.RowKit
def ekI (n:Int):Value:=.int .i64 n
theorem now_ints {d:TypeDesc} (hd:∀ x y,Instr.sameNow d (ekI x) (ekI y)=some (x==y)) (x:Int):∀ (es:List MapEntry) (l:List Int) (i:Nat),es.map (·.key)=l.map ekI→Instr.findNow d (ekI x) es i=some (findAt x l es i)
 | [],[],i,_=>by simp [Instr.findNow,findAt]
 | [],k :: l,i,h=>by simp at h
 | e :: es,[],i,h=>by simp at h
 | e :: es,k :: l,i,h=>by
  rw [List.map_cons,List.map_cons,List.cons.injEq] at h
  have ih:=now_ints hd x es l (i+1) h.2
  rw [Instr.findNow,h.1,hd]
  by_cases hx:x=k
  ·subst hx
   simp [findAt]
  ·have:(x==k)=false:=by simpa using hx
   rw [this]
   simp only [findAt]
   rw [if_neg hx]
   exact ih
theorem chk_int (b:Bool) (x:Int) (w:World) (n:Nat):(Instr.checkKey b (n+1) 3 (ekI x)).run Tryz.prog w = .ok () w:=by
 unfold ekI
 simp [Instr.checkKey,run_underlying Tryz.underlying3,go_sem,Result.andThen]
theorem int_keys:MapK Tryz.prog 3 ekI where
 find x es l w h:=by
  have h1:=now_ints (d:=.int .i64) (fun x y=>by simp [ekI,Instr.sameNow]) x es l 0 h
  simp [Instr.findKey,run_underlying Tryz.underlying3,h1,Result.andThen]
 chk b x w:=chk_int b x w 9999
 bits x:=by unfold ekI;simp [Instr.sameBits]
theorem rgI_row {W:World} {b r base n k:Nat} {l left:List (Int × Value)} {t:TypeId} {v:Value} {xs:List Value} (hr:Rg ekI W b r l left) (h:W.ownsRow base t k v n xs):some b≠v.ownBlock∧some r≠v.ownBlock:=by
 obtain ⟨es,clock,since,seen,c0,hm,_,_,_,_,hit,_⟩:=hr
 rcases h.2 with ⟨rfl,_⟩ | ⟨g,cap,cur,rfl,_,hgg,_⟩
 ·exact ⟨by simp [Value.ownBlock],by simp [Value.ownBlock]⟩
 ·constructor
  ·intro e
   have e':b=g:=Option.some.inj e
   subst e'
   rw [hm] at hgg
   cases hgg
  ·intro e
   have e':r=g:=Option.some.inj e
   subst e'
   rw [hit] at hgg
   cases hgg
theorem strikeI_perm {left:List (Int × Value)} {x:Int} {v:Value} (hn:(left.map (·.1)).Nodup) (hx:(x,v)∈left) {done all:List (Int × Value)} (hp:(done++left).Perm all):((done++[(x,v)])++left.filter fun p=>!decide (p.1=x)).Perm all:=by
 refine List.Perm.trans ?_ hp
 rw [List.append_assoc]
 refine List.Perm.append_left _ ?_
 clear hp
 induction left with
 | nil=>cases hx
 | cons y left ih =>
  rw [List.map_cons,List.nodup_cons] at hn
  by_cases e:y.1=x
  ·have hy:y=(x,v):=by
    rcases List.mem_cons.1 hx with h | h
    ·exact h.symm
    ·exact absurd (by rw [e];exact List.mem_map.2 ⟨(x,v),h,rfl⟩) hn.1
   rw [List.filter_cons,if_neg (by simp [e]),hy,List.singleton_append]
   refine List.Perm.of_eq (congrArg _ ?_)
   rw [List.filter_eq_self]
   intro z hz
   have:z.1≠x:=fun q=>hn.1 (by rw [e,← q];exact List.mem_map.2 ⟨z,hz,rfl⟩)
   simp [this]
  ·have hx2:(x,v)∈left:=by
    rcases List.mem_cons.1 hx with h | h
    ·exact absurd (by rw [← h]) e
    ·exact h
   rw [List.filter_cons,if_pos (by simp [e])]
   exact (List.Perm.swap _ _ _).trans ((ih hn.2 hx2).cons y)
theorem strikeI_len {left:List (Int × Value)} {x:Int} {v:Value} (hx:(x,v)∈left):(left.filter fun p=>!decide (p.1=x)).length<left.length:=by
 induction left with
 | nil=>cases hx
 | cons y left ih =>
  rw [List.filter_cons]
  by_cases e:y.1=x
  ·rw [if_neg (by simp [e]),List.length_cons]
   have:=List.length_filter_le (fun p:Int × Value=>!decide (p.1=x)) left
   omega
  ·rw [if_pos (by simp [e]),List.length_cons,List.length_cons]
   have:=ih (by
    rcases List.mem_cons.1 hx with h | h
    ·exact absurd (by rw [← h]) e
    ·exact h)
   omega
def SoR (D:List (Int × Value)) (w:World) (e:Ending) (w':World):Prop:=∃ v L,e = .returned v∧w'.ownsRow w.heap.size 3 1 v L.length (iCs L)∧L.Pairwise (· < ·)∧(∀ x,x∈L ↔ x∈D.map (·.1))∧Below w.heap.size w w'
theorem sorted_asc {D:List Int} (hn:D.Nodup) {L:List Int} (hp:L.Perm D):(L.mergeSort fun x y=>decide (x≤y)).Pairwise (· < ·)∧∀ x,x∈(L.mergeSort fun x y=>decide (x≤y)) ↔ x∈D:=by
 have h1:=List.mergeSort_perm L (fun x y=>decide (x≤y))
 have h2:(L.mergeSort fun x y=>decide (x≤y)).Pairwise (fun a b=>decide (a≤b)=true):=List.pairwise_mergeSort (fun a b c h1 h2=>by simp only [decide_eq_true_eq] at *;omega) (fun a b=>by simp only [Bool.or_eq_true,decide_eq_true_eq];omega) L
 have h3:(L.mergeSort fun x y=>decide (x≤y)).Nodup:=(h1.trans hp).nodup_iff.2 hn
 refine ⟨List.Pairwise.imp₂ (fun a b (h:decide (a≤b)=true) (h':a≠b)=>?_) h2 h3,fun x=>(h1.trans hp).mem_iff⟩
 have:=of_decide_eq_true h
 omega
theorem sortI_heap {W:World} {g n:Nat} {d:Array Int} {os:Array Obj} {cur:Array Value} {e:TypeId} {fr:Nat × Nat} (h:W.heap[g]?=some (.cells cur e fr)) :
  (Sort.grow (Sort.putRow (Value.int .i64) (Sort.ahead W n) g 0 d) os).heap[g]?=some (.cells (Sort.putCells (Value.int .i64) 0 d cur) e fr):=by
 have hlt:=(Array.getElem?_eq_some_iff.1 h).1
 show (((Sort.mapBlock (Sort.ahead W n) g _).heap)++os)[g]?=_
 rw [Array.getElem?_append_left (by simpa [Sort.mapBlock] using hlt)]
 show ((Sort.ahead W n).heap.modify g _)[g]?=_
 rw [Array.getElem?_modify,if_pos rfl]
 show Option.map _ (W.heap[g]?)=_
 simp only [h,Option.map_some]
 rfl
theorem sortI_row {W:World} {base g:Nat} {t:TypeId} {m cap n:Nat} {d d':Array Int} {os:Array Obj} (hs:d'.size=d.size) (h:W.ownsRow base t 1 (.slice (some ⟨g,0,none⟩) m cap) d.size (iCs d.toList)) :
  (Sort.grow (Sort.putRow (Value.int .i64) (Sort.ahead W n) g 0 d') os).ownsRow base t 1 (.slice (some ⟨g,0,none⟩) m cap) d'.size (iCs d'.toList):=by
 obtain ⟨hl,⟨e,_⟩ | ⟨g',cap',cur,e,hbg,hg,hn,hmx,hz,hx⟩⟩:=h
 ·cases e
 ·cases e
  have hle:d'.size≤cur.size:=by omega
  refine ⟨by simp [iCs],.inr ⟨g,cap,_,by rw [hs],hbg,sortI_heap hg,by rw [hs];exact hn,hmx,by simp [Sort.putCells,hz],?_⟩⟩
  apply List.ext_getElem?
  intro j
  rw [List.getElem?_take,Array.getElem?_toList]
  unfold iCs
  rw [List.getElem?_map,Array.getElem?_toList]
  by_cases ht:j<d'.size
  ·rw [if_pos (by omega)]
   simp only [Sort.putCells,Array.getElem?_mapIdx]
   rw [Array.getElem?_eq_getElem (by omega),Option.map_some,if_pos ⟨Nat.zero_le _,by omega⟩,Nat.sub_zero,getElem!_pos _ j ht,Array.getElem?_eq_getElem ht]
   rfl
  ·rw [if_neg (by omega),Array.getElem?_eq_none (by omega)]
   rfl
theorem sortI_grown {W:World} {g n:Nat} {d:Array Int} {os:Array Obj}:W.grownBy (Sort.grow (Sort.putRow (Value.int .i64) (Sort.ahead W n) g 0 d) os) (some g) where
 os:=rfl
 tape:=rfl
 output:=rfl
 size:=by
  show _≤(((Sort.mapBlock (Sort.ahead W n) g _).heap)++os).size
  simp [Sort.mapBlock,Sort.ahead]
 block i hi hne:=by
  show (((Sort.mapBlock (Sort.ahead W n) g _).heap)++os)[i]?=_
  rw [Array.getElem?_append_left (by simpa [Sort.mapBlock,Sort.ahead] using hi)]
  show ((Sort.ahead W n).heap.modify g _)[i]?=_
  rw [Array.getElem?_modify,if_neg (fun e=>hne (by rw [e]))]
  rfl
theorem holdsI_row {W:World} {base g:Nat} {t:TypeId} {m cap:Nat} {L:List Int} (h:W.ownsRow base t 1 (.slice (some ⟨g,0,none⟩) m cap) L.length (iCs L)):Sort.Holds (Value.int .i64) W g 0 L.toArray∧g<W.heap.size:=by
 obtain ⟨hl,⟨e,_⟩ | ⟨g',cap',cur,e,hbg,hg,hn,hmx,hz,hx⟩⟩:=h
 ·cases e
 ·cases e
  refine ⟨fun j hj=>?_,(Array.getElem?_eq_some_iff.1 hg).1⟩
  have hj':j<L.length:=by simpa using hj
  have hc:cur[j]?=some (.int .i64 L[j]):=by
   have h1:=congrArg (fun l=>l[j]?) hx
   simp only [List.getElem?_take,Array.getElem?_toList] at h1
   rw [if_pos (by omega)] at h1
   rw [h1]
   unfold iCs
   rw [List.getElem?_map,List.getElem?_eq_getElem hj']
   rfl
  constructor
  ·simp only [World.cell?,hg,Nat.zero_add]
   rw [getElem!_pos L.toArray j hj,List.getElem_toArray]
   exact hc
  ·simp only [World.frozen?,hg]
   rfl
theorem sortI_any (L:List Int) (hn:L.length≤1000000000) (base:Nat) (v:Value) (w:World) (h:w.ownsRow base 3 1 v L.length (iCs L)) :
  Calls Tryz.prog 92 #[v] w fun e w'=>e = .returned (.tuple #[])∧w'.ownsRow base 3 1 v (L.mergeSort fun x y=>decide (x≤y)).length (iCs (L.mergeSort fun x y=>decide (x≤y)))∧w.grownBy w' v.ownBlock:=by
 rcases h.2 with ⟨hv,h0⟩ | ⟨g,cap,cur,hv,hbg,hg,hrest⟩
 ·have hl0:L=[]:=List.length_eq_zero_iff.1 h0
  subst hl0
  have hcon:=Tryz.slices_Sort_int_none none 0 w
  rw [← hv] at hcon
  refine hcon.mono ?_
  rintro e w' ⟨rfl,rfl⟩
  exact ⟨rfl,by simpa using h,World.grownBy.refl _ _⟩
 ·have h':=h
  rw [hv] at h'
  have hH:=holdsI_row h'
  have hcon:=Tryz.slices_Sort_int g 0 cap L w hH.1 hH.2 (by omega)
  rw [← hv] at hcon
  refine hcon.mono ?_
  rintro e w' ⟨rfl,n,os,rfl⟩
  refine ⟨rfl,?_,?_⟩
  ·have h2:w.ownsRow base 3 1 (.slice (some ⟨g,0,none⟩) L.length cap) L.toArray.size (iCs L.toArray.toList):=by simpa using h'
   have:=sortI_row (n:=n) (os:=os) (d':=(L.mergeSort fun x y=>decide (x≤y)).toArray) (by simp) h2
   rw [hv]
   simpa using this
  ·rw [hv];exact sortI_grown
set_option maxRecDepth 100000 in
set_option maxHeartbeats 12800000 in
theorem sorted_any (MB:Nat) (D:List (Int × Value)) (w:World) (hm:Mp ekI w MB D) (hl:D.length≤100000) :
  Calls Tryz.prog 66 #[.map (some MB)] w (SoR D w):=by
 obtain ⟨i0,hi0,hz0,hz1,hz2⟩:=info_parts int64_info
 have HND:=Lib.hid hm.nodup
 go_enter Tryz.func66,Tryz.ntmps66
 go_wp2_with (at_range;refine wpList_range_mp _ rfl _ 139 rfl 3 4 Tryz.underlying139 rfl hm ?_;intro w5 hrg5 hg5 hs5)
 try go_frame
 have hst:RowKit.Hid (w5.ownsRow (w.heap.size+1) 3 1 (.slice none 0 0) (([]:List (Int × Value)).map (·.1)).length (iCs (([]:List (Int × Value)).map (·.1)))):=Lib.hid (World.ownsRow_nil _ _ _ _)
 have hrefl:RowKit.Hid (Below w.heap.size w w5):=Lib.hid ⟨hg5.os,hg5.tape,hg5.output,hg5.size,fun k hk=>hg5.block k hk (by simp)⟩
 have HRG5:=Lib.hid hrg5
 clear hg5 hrg5 hm hs5
 go_loopw [3] (fun v wi=>∃ done left:List (Int × Value),RowKit.Hid (Rg ekI wi MB w.heap.size D left)∧RowKit.Hid ((done++left).Perm D)∧RowKit.Hid (wi.ownsRow (w.heap.size+1) 3 1 v (done.map (·.1)).length (iCs (done.map (·.1))))∧RowKit.Hid (Below w.heap.size w wi)) (fun _ wi=>wi.rangeLeft MB w.heap.size)
 case atStart=>exact ⟨[],D,HRG5,Lib.hid (List.Perm.refl _),hst,hrefl⟩
 clear HRG5 hst hrefl
 obtain ⟨done,left,hrg,hperm,hout,hB⟩:=hrel
 have hdl:done.length≤100000:=by
  have:=hperm.out.length_eq
  rw [List.length_append] at this
  omega
 have hszB:=hB.out.size
 go_wp2_with (at_next;refine wpList_next_mp _ rfl _ rfl rfl hrg.out ?_ ?_)
 ·intro hleft
  have hp:=hperm.out
  rw [hleft,List.append_nil] at hp
  have HSA:=Lib.hid (sorted_asc HND.out (hp.map (·.1)))
  have HSO:=Lib.hid (sortI_any (done.map (·.1)) (by rw [List.length_map];omega) (w.heap.size+1) u3 wr hout.out)
  have HGE:=Lib.hid (fun j (e:u3.ownBlock=some j)=>row_ge hout.out e)
  clear hp hleft hperm hrg hout
  go_wp2_with fail
  refine (HSO.out).mono ?_
  rintro e w8 ⟨rfl,hr8,hg8⟩
  have HB8:=Lib.hid (hB.out.grown hg8 hB.out.size (fun j e=>Nat.le_of_succ_le (HGE.out j e)))
  have HO8:=Lib.hid (row_base hr8 (Nat.le_succ w.heap.size))
  clear hr8 hg8 HSO
  go_wp2
  go_ret
  exact ⟨u3,_,rfl,HO8.out,HSA.out.1,HSA.out.2,HB8.out⟩
 ·intro x v w6 hin hrg6 hg6 hs6 hen
  have HPS:=Lib.hid (strikeI_perm hrg.out.nodup hin hperm.out)
  have HLT:=Lib.hid (strikeI_len hin)
  have HLE:=Lib.hid hrg.out.left_eq
  have hB6:Below w.heap.size w w6:=hB.out.grown hg6 hB.out.size (fun j e=>by cases e;exact Nat.le_refl _)
  have HO6:=Lib.hid (hout.out.kept hg6 (.inr (Ne.symm (rgI_row hrg.out hout.out).2)))
  have HR6:=Lib.hid hrg6
  have HB6:=Lib.hid hB6
  have hsz6:=hB6.size
  have HRW:=Lib.hid (show (done++[(x,v)]).map (·.1)=done.map (·.1)++[x] by rw [List.map_append];rfl)
  clear hin hrg hperm hout hB hg6 hs6 hrg6 hB6
  simp only [ekI] at hen
  obtain ⟨L,hL⟩:∃ L,done.map (·.1)=L:=⟨_,rfl⟩
  have hLl:L.length≤100000:=by rw [← hL,List.length_map];exact hdl
  rw [hL] at HO6 HRW
  clear hL
  try go_frame
  go_wp2_with (at_builtin;refine wpList_append_lies _ rfl _ _ 68 rfl (w.heap.size+1) 3 i0 _ 1 8 Tryz.underlying68 hi0 hz0 hz1 hz2 rfl (by omega) _ _ _ rfl (HO6.out.alloc _) ⟨w6.heap.size,0,none⟩ 1 1 [.int .i64 x] rfl rfl (World.news_of_block (cs:=#[.int .i64 x]) (t:=3) (fr:=(0,0)) (heap_alloc_new w6 _)) (by simp [Value.oneCell']) (by omega) (by unfold maxLen;omega) (by omega) (by simp;omega) (w6.heap.size+1) (by simp) ?_;intro gg cap w8 hown8 hgrow hat8 hlt8)
  have HQ:=Lib.hid (show w8.ownsRow (w.heap.size+1) 3 1 (.slice (some ⟨gg,0,none⟩) (L.length+1) cap) (L++[x]).length (iCs (L++[x])) by rw [iCs_snoc,List.length_append,List.length_singleton];exact hown8)
  have HB8:RowKit.Hid (Below w.heap.size w w8):=Lib.hid ((HB6.out.alloc HB6.out.size _).grown hgrow (by have:=HB6.out.size;simp;omega) (fun j e=>Nat.le_of_succ_le (row_ge HO6.out e)))
  have hr7:=HR6.out.below ((Below.refl _ w6).alloc (Nat.le_refl _) (.cells #[.int .i64 x] 3))
  have HG8:=Lib.hid (hr7.kept hgrow (rgI_row hr7 (HO6.out.alloc _)).1 (rgI_row hr7 (HO6.out.alloc _)).2)
  clear hown8 hgrow hat8 hlt8 hr7
  go_wp2
  refine ⟨⟨done++[(x,v)],_,HG8,HPS,by rw [HRW.out];exact HQ,HB8⟩,?_⟩
  rw [HG8.out.left_eq,HLE.out]
  exact HLT.out
end Go.Proofs.YthhfmppealmblaaGreatDoor
namespace Go.Proofs.YthhfmppealmblaaGreatDoor
open Go.RowKit
theorem mem_setM {p:Pp} {v:Value} {l:List Pp}:(p,v)∈setM l→p∈l∧v = .bool true:=by
 intro h
 unfold setM at h
 obtain ⟨q,hq,e⟩:=List.mem_map.1 h
 cases e
 exact ⟨hq,rfl⟩
theorem set_same {a b:List Pp} (ha:a.Nodup) (h:∀ p∈a,p∈b) (hl:a.length=b.length):∀ p,p∈a ↔ p∈b:=fun p =>
 ⟨h p,fun hp=>Classical.byContradiction fun hn=>by
  have h1:(p :: a).Nodup:=List.nodup_cons.2 ⟨hn,ha⟩
  have h2:=nodup_lenP h1 (fun x hx=>by
   rcases List.mem_cons.1 hx with rfl | hx
   ·exact hp
   ·exact h x hx)
  rw [List.length_cons] at h2
  omega⟩
theorem set_len {a b:List Pp} (ha:a.Nodup) (hb:b.Nodup) (h:∀ p,p∈a ↔ p∈b):a.length=b.length:=by
 have h1:=nodup_lenP ha (fun x hx=>(h x).1 hx)
 have h2:=nodup_lenP hb (fun x hx=>(h x).2 hx)
 omega
set_option maxRecDepth 100000 in
set_option maxHeartbeats 12800000 in
theorem sameM_any (ma mb:Nat) (a b:List Pp) (w:World) (hma:Mp ekP w ma (setM a)) (hmb:Mp ekP w mb (setM b)) (bb:Bool) (hbb:bb=true ↔ ∀ p,p∈a ↔ p∈b) :
  Calls Tryz.prog 65 #[.map (some ma),.map (some mb)] w (BoR bb w):=by
 have hna:=hma.nodup
 have hnb:=hmb.nodup
 rw [setM_keys] at hna hnb
 have HNA:=Lib.hid hna
 have HNB:=Lib.hid hnb
 have HBB:=Lib.hid hbb
 have HMB:=Lib.hid hmb
 have HMA:=Lib.hid hma
 clear hna hnb hbb hmb
 go_enter Tryz.func65,Tryz.ntmps65
 go_wp2_with (at_range;refine wpList_range_mp _ rfl _ 131 rfl 45 4 Tryz.underlying131 rfl hma ?_;intro w5 hrg5 hg5 hs5)
 try go_frame
 have hrefl:RowKit.Hid (Below w.heap.size w w5):=Lib.hid ⟨hg5.os,hg5.tape,hg5.output,hg5.size,fun k hk=>hg5.block k hk (by simp)⟩
 have HRG5:=Lib.hid hrg5
 have HV0:=Lib.hid (show ∀ p∈(([]:List (Pp × Value)).map (·.1)),p∈b from fun p h=>by cases h)
 clear hg5 hrg5 hma hs5
 go_loopw [] (fun wi=>∃ done left:List (Pp × Value),RowKit.Hid (Rg ekP wi ma w.heap.size (setM a) left)∧RowKit.Hid ((done++left).Perm (setM a))∧RowKit.Hid (∀ p∈done.map (·.1),p∈b)∧RowKit.Hid (Below w.heap.size w wi)) (fun wi=>wi.rangeLeft ma w.heap.size)
 case atStart=>exact ⟨[],setM a,HRG5,Lib.hid (List.Perm.refl _),HV0,hrefl⟩
 clear HRG5 hrefl HV0
 obtain ⟨done,left,hrg,hperm,hV,hB⟩:=hrel
 go_wp2_with (at_next;refine wpList_next_mp _ rfl _ rfl rfl hrg.out ?_ ?_)
 ·intro hleft
  have hp:=hperm.out
  rw [hleft,List.append_nil] at hp
  have hpk:(done.map (·.1)).Perm a:=by have h:=hp.map (·.1);rwa [setM_keys] at h
  have HSU:=Lib.hid (show ∀ p∈a,p∈b from fun p hpa=>hV.out p (hpk.mem_iff.2 hpa))
  have hmA:=hrg.out.mp
  have hmB:=HMB.out.below hB.out
  have hrA:=fun (ty:TypeId)=>run_len_mp (P:=Tryz.prog) hmA 131 ty 45 4 Tryz.underlying131
  have hrB:=fun (ty:TypeId)=>run_len_mp (P:=Tryz.prog) hmB 131 ty 45 4 Tryz.underlying131
  have HBW:=Lib.hid hB.out
  have e1:(setM a).length=a.length:=by unfold setM;rw [List.length_map]
  have e2:(setM b).length=b.length:=by unfold setM;rw [List.length_map]
  rw [e1] at hrA
  rw [e2] at hrB
  have HEQ:=Lib.hid (show bb=((a.length:Int)==(b.length:Int)) by
   rw [Bool.eq_iff_iff,HBB.out,beq_iff_eq]
   constructor
   ·intro h
    have:=set_len HNA.out HNB.out h
    omega
   ·intro h
    exact set_same HNA.out HSU.out (by omega))
  clear hp hpk hleft hperm hV hmA hmB hrg hB e1 e2
  go_wp2
  go_ret
  exact ⟨by rw [HEQ.out];rfl,HBW.out⟩
 ·intro x1 x2 v w6 hin hrg6 hg6 hs6 hen
  have hB6:Below w.heap.size w w6:=hB.out.grown hg6 hB.out.size (fun j e=>by cases e;exact Nat.le_refl _)
  have hal:Below w6.heap.size w6 (w6.alloc (.cells #[.int .i64 x1,.int .i64 x2] 45)):=(Below.refl _ _).alloc (Nat.le_refl _) _
  have hpa:=(mem_setM (hrg.out.sub _ hin)).1
  have hvt:=(mem_setM (hrg.out.sub _ hin)).2
  subst hvt
  have HPS:=Lib.hid (strike_perm hrg.out.nodup hin hperm.out)
  have HLT:=Lib.hid (strike_len hin)
  have HLE:=Lib.hid hrg.out.left_eq
  have HG7:=Lib.hid (hrg6.below hal)
  have HB7:=Lib.hid (below_step hB6 hal)
  have HX:=Lib.hid (Blk.new w6 45 #[.int .i64 x1,.int .i64 x2])
  have HPA:=Lib.hid hpa
  simp only [ekP] at hen
  clear hrg hperm hin hrg6 hg6 hs6 hB6 hal hpa hB
  try go_frame
  go_upto_region 4 with fail
  obtain ⟨X,hX⟩:∃ X,w6.heap.size=X:=⟨_,rfl⟩
  rw [hX] at HX ⊢
  generalize w6.alloc (.cells #[.int .i64 x1,.int .i64 x2] 45)=w7 at *
  clear hX
  have x0:w7.cell? ⟨X,0,none⟩=some (.int .i64 x1):=HX.out.cell 0
  have x1':w7.cell? ⟨X,1,none⟩=some (.int .i64 x2):=HX.out.cell 1
  have hmB:=HMB.out.below HB7.out
  obtain ⟨cc,hcc⟩:∃ cc,decide ((x1,x2)∈b)=cc:=⟨_,rfl⟩
  have hget:(mget (x1,x2) (setM b)).getD (.bool false) = .bool cc:=by rw [mget_set,← hcc];congr
  cases cc with
  | true =>
   have HV8:=Lib.hid (show ∀ p∈(done++[((x1,x2),Value.bool true)]).map (·.1),p∈b from fun p hp=>by
    rw [List.map_append,List.mem_append] at hp
    rcases hp with hp | hp
    ·exact hV.out p hp
    ·rw [List.map_cons,List.map_nil,List.mem_singleton] at hp
     rw [hp]
     exact of_decide_eq_true hcc)
   clear hcc hV
   go_wp2_with (at_lookup;refine wpList_lookup_mp _ rfl _ _ 131 rfl 4 pp_keys Tryz.underlying131 (Tryz.zeroValue4 _) rfl hmB (x1,x2) rfl ?_;rw [hget])
   refine ⟨⟨done++[((x1,x2),.bool true)],_,HG7,HPS,HV8,HB7⟩,?_⟩
   rw [HG7.out.left_eq,HLE.out]
   exact HLT.out
  | false =>
   have HBF:=Lib.hid (show bb=false by
    cases hb:bb with
    | false=>rfl
    | true=>exact absurd ((HBB.out.1 hb _).1 HPA.out) (of_decide_eq_false hcc))
   clear hcc hV
   go_wp2_with (at_lookup;refine wpList_lookup_mp _ rfl _ _ 131 rfl 4 pp_keys Tryz.underlying131 (Tryz.zeroValue4 _) rfl hmB (x1,x2) rfl ?_;rw [hget])
   go_ret
   exact ⟨by rw [HBF.out];rfl,HB7.out⟩
end Go.Proofs.YthhfmppealmblaaGreatDoor
namespace Go.Proofs.YthhfmppealmblaaGreatDoor
open Go.RowKit
structure G2 (a b:Nat) (W W':World):Prop where
 os:W'.os=W.os
 tape:W'.tape=W.tape
 output:W'.output=W.output
 size:W.heap.size≤W'.heap.size
 block:∀ k,k<W.heap.size→k≠a→k≠b→W'.heap[k]?=W.heap[k]?
theorem G2.refl (a b:Nat) (W:World):G2 a b W W:=⟨rfl,rfl,rfl,Nat.le_refl _,fun _ _ _ _=>rfl⟩
theorem G2.trans {a b:Nat} {X Y Z:World} (h:G2 a b X Y) (k:G2 a b Y Z):G2 a b X Z:=⟨k.os.trans h.os,k.tape.trans h.tape,k.output.trans h.output,Nat.le_trans h.size k.size,fun i h1 h2 h3=>(k.block i (Nat.lt_of_lt_of_le h1 h.size) h2 h3).trans (h.block i h1 h2 h3)⟩
theorem G2.of_below {a b:Nat} {W W':World} (h:Below W.heap.size W W'):G2 a b W W':=⟨h.os,h.tape,h.output,h.size,fun k hk _ _=>h.block k hk⟩
theorem G2.of_grown {a b:Nat} {W W':World} (h:W.grownBy W' (some a)∨W.grownBy W' (some b)):G2 a b W W':=by
 rcases h with h | h
 ·exact ⟨h.os,h.tape,h.output,h.size,fun k hk h1 _=>h.block k hk (fun e=>h1 (Option.some.inj e))⟩
 ·exact ⟨h.os,h.tape,h.output,h.size,fun k hk _ h1=>h.block k hk (fun e=>h1 (Option.some.inj e))⟩
theorem G2.below {a b n0:Nat} {W W':World} (h:G2 a b W W') (ha:n0≤a) (hb:n0≤b) (hn:n0≤W.heap.size):Below n0 W W':=⟨h.os,h.tape,h.output,h.size,fun k hk=>h.block k (by omega) (by omega) (by omega)⟩
theorem set_twice {cs:Array Value} {i:Nat} {v u:Value} (h:cs[i]?=some u):(cs.setIfInBounds i v).setIfInBounds i u=cs:=by
 refine Array.ext_getElem? fun j=>?_
 rw [Array.getElem?_setIfInBounds,Array.getElem?_setIfInBounds,Array.size_setIfInBounds]
 by_cases e:i=j
 ·subst e
  have:=(Array.getElem?_eq_some_iff.1 h).1
  rw [if_pos rfl,if_pos this,h]
 ·rw [if_neg e,if_neg e]
theorem G2.back {a b B i:Nat} {T:TypeId} {cs:Array Value} {v u:Value} {W W2:World} (hB:Blk W B T cs) (hu:cs[i]?=some u) (hab:B≠a∧B≠b) (h:G2 a b (W.setCell ⟨B,i,none⟩ v) W2):G2 a b W (W2.setCell ⟨B,i,none⟩ u):=by
 have h1:=hB.set i v
 have hz:(W.setCell ⟨B,i,none⟩ v).heap.size=W.heap.size:=by simp [World.setCell]
 have h2:Blk W2 B T (cs.setIfInBounds i v):=(h.block B h1.lt hab.1 hab.2).trans h1
 have h3:=h2.set i u
 rw [set_twice hu] at h3
 have hz2:(W2.setCell ⟨B,i,none⟩ u).heap.size=W2.heap.size:=by simp [World.setCell]
 refine ⟨h.os,h.tape,h.output,by rw [hz2,← hz];exact h.size,fun k hk e1 e2=>?_⟩
 by_cases e:k=B
 ·subst e
  exact h3.trans hB.symm
 ·rw [Below.heap_setCell W2 ⟨B,i,none⟩ u k e,h.block k (by rw [hz];exact hk) e1 e2,Below.heap_setCell W ⟨B,i,none⟩ v k e]
def TryE (B:(Th→Int)→Pp→Bool) (l:List Ev) (k:Int) (N:Nat) (ms:List Nat) (j i:Nat) (fk mk:Nat) (W:World) (e:Ending) (W':World):Prop:=e = .returned (.tuple #[])∧G2 fk mk W W'∧∃ Dm Df,Mp ekI W' mk (setM Dm)∧Mp ekI W' fk (setM Df)∧IdM B l k N ms j (i+1) Dm Df
theorem mdel_setM {κ:Type} [DecidableEq κ] (x:κ):∀ m:List κ,m.Nodup→∃ m',mdel x (setM m)=setM m'∧∀ q,q∈m' ↔ q≠x∧q∈m
 | [],_=>⟨[],rfl,fun q=>by simp⟩
 | y :: m,hn=>by
  obtain ⟨m',h1,h2⟩:=mdel_setM x m (List.nodup_cons.1 hn).2
  have hy:=(List.nodup_cons.1 hn).1
  unfold setM at h1 ⊢
  rw [List.map_cons]
  unfold mdel
  by_cases e:y=x
  ·subst e
   refine ⟨m,by simp,fun q=>?_⟩
   constructor
   ·intro h
    exact ⟨fun e=>hy (e ▸ h),List.mem_cons_of_mem _ h⟩
   ·rintro ⟨h3,h4⟩
    exact (List.mem_cons.1 h4).resolve_left h3
  ·refine ⟨y :: m',by rw [if_neg (fun q=>e q.symm),h1];rfl,fun q=>?_⟩
   rw [List.mem_cons,List.mem_cons,h2]
   constructor
   ·rintro (rfl | ⟨h3,h4⟩)
    ·exact ⟨e,.inl rfl⟩
    ·exact ⟨h3,.inr h4⟩
   ·rintro ⟨h3,rfl | h4⟩
    ·exact .inl rfl
    ·exact .inr ⟨h3,h4⟩
structure TrS (w0:World) (PL XB NB nm FB MB fk mk:Nat) (now:List Pp) (Fa Ma C:Array Value) (lm lf:List (Int × Value)) (W:World):Prop where
 be:Below w0.heap.size w0 W
 pl:Blk W PL 134 C
 x:Boxed W XB 130 (.pointer (some ⟨PL,0,none⟩))
 n:Boxed W NB 131 (.map (some nm))
 nm:Mp ekP W nm (setM now)
 F:Blk W FB 140 Fa
 M:Blk W MB 140 Ma
 f:Mp ekI W fk lf
 m:Mp ekI W mk lm
section
variable {w0 : World} {PL XB NB nm FB MB fk mk : Nat} {now : List Pp} {Fa Ma C : Array Value} {lm lf : List (Int × Value)} {W W' : World}
theorem TrS.below (h:TrS w0 PL XB NB nm FB MB fk mk now Fa Ma C lm lf W) (hb:Below W.heap.size W W'):TrS w0 PL XB NB nm FB MB fk mk now Fa Ma C lm lf W' :=
 ⟨below_step h.be hb,h.pl.below hb,(hb.block _ h.x.lt).trans h.x,(hb.block _ h.n.lt).trans h.n,h.nm.below hb,h.F.below hb,h.M.below hb,h.f.below hb,h.m.below hb⟩
theorem TrS.upM (h:TrS w0 PL XB NB nm FB MB fk mk now Fa Ma C lm lf W) (h1:nm≠mk) (h2:fk≠mk) (h3:w0.heap.size≤mk) (hg:W.grownBy W' (some mk)) {lm':List (Int × Value)} (hm:Mp ekI W' mk lm'):TrS w0 PL XB NB nm FB MB fk mk now Fa Ma C lm' lf W' :=
 ⟨h.be.grown hg h.be.size (fun j e=>by cases e;exact h3),h.pl.grown hg (fun e=>mp_not_blk h.m h.pl (Option.some.inj e).symm),h.x.kept hg (fun e=>mp_not_blk h.m (show Blk W XB _ #[_] from h.x) (Option.some.inj e)),h.n.kept hg (fun e=>mp_not_blk h.m (show Blk W NB _ #[_] from h.n) (Option.some.inj e)),h.nm.kept hg (fun e=>h1 (Option.some.inj e)),h.F.grown hg (fun e=>mp_not_blk h.m h.F (Option.some.inj e).symm),h.M.grown hg (fun e=>mp_not_blk h.m h.M (Option.some.inj e).symm),h.f.kept hg (fun e=>h2 (Option.some.inj e)),hm⟩
theorem TrS.upF (h:TrS w0 PL XB NB nm FB MB fk mk now Fa Ma C lm lf W) (h1:nm≠fk) (h2:fk≠mk) (h3:w0.heap.size≤fk) (hg:W.grownBy W' (some fk)) {lf':List (Int × Value)} (hm:Mp ekI W' fk lf'):TrS w0 PL XB NB nm FB MB fk mk now Fa Ma C lm lf' W' :=
 ⟨h.be.grown hg h.be.size (fun j e=>by cases e;exact h3),h.pl.grown hg (fun e=>mp_not_blk h.f h.pl (Option.some.inj e).symm),h.x.kept hg (fun e=>mp_not_blk h.f (show Blk W XB _ #[_] from h.x) (Option.some.inj e)),h.n.kept hg (fun e=>mp_not_blk h.f (show Blk W NB _ #[_] from h.n) (Option.some.inj e)),h.nm.kept hg (fun e=>h1 (Option.some.inj e)),h.F.grown hg (fun e=>mp_not_blk h.f h.F (Option.some.inj e).symm),h.M.grown hg (fun e=>mp_not_blk h.f h.M (Option.some.inj e).symm),hm,h.m.kept hg (fun e=>h2 (Option.some.inj e).symm)⟩
theorem TrS.set (h:TrS w0 PL XB NB nm FB MB fk mk now Fa Ma C lm lf W) (h3:w0.heap.size≤PL) (i:Nat) (v:Value):TrS w0 PL XB NB nm FB MB fk mk now Fa Ma (C.setIfInBounds i v) lm lf (W.setCell ⟨PL,i,none⟩ v):=by
 have hg:=set_grown W PL i v
 exact ⟨h.be.grown hg h.be.size (fun j e=>by cases e;exact h3),h.pl.set i v,h.x.kept hg (fun e=>(Blk.ne (show Blk W XB _ #[_] from h.x) h.pl (by decide)) (Option.some.inj e)),h.n.kept hg (fun e=>(Blk.ne (show Blk W NB _ #[_] from h.n) h.pl (by decide)) (Option.some.inj e)),h.nm.kept hg (fun e=>mp_not_blk h.nm h.pl (Option.some.inj e).symm),h.F.other _ _ (Blk.ne h.F h.pl (by decide)),h.M.other _ _ (Blk.ne h.M h.pl (by decide)),h.f.kept hg (fun e=>mp_not_blk h.f h.pl (Option.some.inj e).symm),h.m.kept hg (fun e=>mp_not_blk h.m h.pl (Option.some.inj e).symm)⟩
end
set_option maxRecDepth 100000 in
set_option maxHeartbeats 12800000 in
theorem try_any (v1 v2 v3 v4:Value) (S:Sp) (hc:(checkP S).2=0) (fp:Nat→Value) (PB:Nat) (B:(Th→Int)→Pp→Bool) (hB:SndIs S B) (l:List Ev) (k N:Nat) (hk:k<2) (ms:List Nat) (j i:Nat) (hi:i<N) (f:Th→Int) (hfe:onV (l.take (j+1))=f) (hf:OnOk S f) (tk:Int) (PL ix:Nat) (hix:OnIx ((k:Int)+2,0,(i:Int)) ix) (now:List Pp) (hnow:∀ p,p∈now ↔ Snd S f p) (FB MB NB XB nm fk mk:Nat) (Fa Ma cs:Array Value) (hFk:Fa[k]?=some (.map (some fk))) (hMk:Ma[k]?=some (.map (some mk))) (hne:fk≠mk) (hn1:nm≠mk) (hn2:nm≠fk) (Dm Df:List Int) (hId:IdM B l ((k:Int)+2) N ms j i Dm Df) (w0 W:World) (hon:OnI f cs)
  (hsp:SpRd w0 v1 v2 v3 v4 fp S) (hpb:Blk w0 PB 27 #[v1,v2,v3,v4]) (hz1:w0.heap.size≤fk) (hz2:w0.heap.size≤mk) (hz3:w0.heap.size≤PL) (hT:TrS w0 PL XB NB nm FB MB fk mk now Fa Ma (plC PB cs tk) (setM Dm) (setM Df) W) :
  Calls Tryz.prog 64 #[.int .i64 k,.int .i64 i,.pointer (some ⟨PL,1+ix,none⟩),.pointer (some ⟨FB,0,none⟩),.pointer (some ⟨MB,0,none⟩),.pointer (some ⟨NB,0,none⟩),.pointer (some ⟨XB,0,none⟩)] W (TryE B l ((k:Int)+2) N ms j i fk mk W):=by
 have hu1:onCell ((k:Int)+2,0,(i:Int)) (f ((k:Int)+2,0,(i:Int))) = .bool (decide (f ((k:Int)+2,0,(i:Int))=1)):=if_neg (by simp only;omega)
 have hu0:onCell ((k:Int)+2,0,(i:Int)) 0 = .bool false:=if_neg (by simp only;omega)
 have hcv:=hon.val _ _ hix
 rw [hu1] at hcv
 have hcp:(plC PB cs tk)[1+ix]?=some (.bool (decide (f ((k:Int)+2,0,(i:Int))=1))):=(plC_on hon.size (onIx_lt hix)).trans hcv
 obtain ⟨db,hdb⟩:∃ db,decide (f ((k:Int)+2,0,(i:Int))=1)=db:=⟨_,rfl⟩
 rw [hdb] at hcp
 have c0:W.cell? ⟨PL,1+ix,none⟩=some (.bool db):=(hT.pl.cell _).trans hcp
 have cF:W.cell? ⟨FB,k,none⟩=some (.map (some fk)):=(hT.F.cell _).trans hFk
 have cM:W.cell? ⟨MB,k,none⟩=some (.map (some mk)):=(hT.M.cell _).trans hMk
 have hk2:(k:Int)<2:=by omega
 obtain ⟨bb,hbb⟩:∃ bb,decide ((i:Int)∈Df)=bb:=⟨_,rfl⟩
 have hget:(mget (i:Int) (setM Df)).getD (.bool false) = .bool bb:=by
  rw [mget_set,← hbb]
 have hlk:(Instr.lookup 139 (.map (some fk)) (.int .i64 i) false).run Tryz.prog W = .ok (.bool bb) W:=by
  rw [← hget]
  exact (hT.f.lookup int_keys Tryz.underlying139 (Tryz.zeroValue4 _) (i:Int)).1
 have HT:=Lib.hid hT
 have HID:=Lib.hid hId
 have HFE:=Lib.hid hfe
 have HDB:=Lib.hid hdb
 have HBB:=Lib.hid hbb
 have HCP:=Lib.hid hcp
 clear hId hu1 hcv hfe hdb hbb hcp hget
 cases db with
 | false =>
  clear hT hlk
  go_enter Tryz.func64,Tryz.ntmps64
  go_wp2
  refine bodyPost_ret (results_none rfl _ _ _) rfl ?_
  exact ⟨rfl,G2.refl _ _ _,Dm,Df,HT.out.m,HT.out.f,HID.out.skip hi (.inl (by rw [HFE.out];exact of_decide_eq_false HDB.out))⟩
 | true =>
 cases bb with
 | true =>
  clear hT
  go_enter Tryz.func64,Tryz.ntmps64
  go_wp2
  refine bodyPost_ret (results_none rfl _ _ _) rfl ?_
  exact ⟨rfl,G2.refl _ _ _,Dm,Df,HT.out.m,HT.out.f,HID.out.skip hi (.inr (of_decide_eq_true HBB.out))⟩
 | false =>
 have HD1:=Lib.hid (show onV (l.take (j+1)) ((k:Int)+2,0,(i:Int))=1 by rw [HFE.out];exact of_decide_eq_true HDB.out)
 have HD2:=Lib.hid (of_decide_eq_false HBB.out)
 have hmm:=hT.m
 clear hT HDB HBB
 go_enter Tryz.func64,Tryz.ntmps64
 go_upto_region 2 with (at_mapUpdate;refine wpList_update_mp _ rfl _ _ _ 139 rfl 4 int_keys Tryz.underlying139 rfl hmm (i:Int) (.bool true) rfl rfl ?_;intro W3 hm3 hg3 hs3)
 have HT3:=Lib.hid (HT.out.upM hn1 hne hz2 hg3 hm3)
 have HG3:=Lib.hid (G2.of_grown (a:=fk) (b:=mk) (.inr hg3))
 clear c0 cF cM hmm hlk hm3 hg3 hs3
 have c0:W3.cell? ⟨PL,1+ix,none⟩=some (.bool true):=(HT3.out.pl.cell _).trans HCP.out
 have f0:W3.frozen? ⟨PL,1+ix,none⟩=false:=HT3.out.pl.frozen _
 have HT4:=Lib.hid (HT3.out.set hz3 (1+ix) (.bool false))
 rw [plC_set hon.size (onIx_lt hix)] at HT4
 have hon4:=hon.set hix 0
 rw [hu0] at hon4
 have HON4:=Lib.hid hon4
 clear hon4 hu0
 go_upto_region 3 with fail
 obtain ⟨W4,hW4⟩:∃ W4,W3.setCell ⟨PL,1+ix,none⟩ (.bool false)=W4:=⟨_,rfl⟩
 rw [hW4] at HT4 ⊢
 have HW4:=Lib.hid hW4
 clear hW4 c0 f0
 have HSO:=Lib.hid (fun (W':World) (hb:Below W4.heap.size W4 W')=>sounding_any v1 v2 v3 v4 S hc fp PB PL (offF ((k:Int)+2) i f) tk (hf.off) W' (hsp.later (HT4.out.below hb).be) (hpb.below (HT4.out.below hb).be) ⟨_,HON4.out,(HT4.out.below hb).pl⟩)
 have cN:W4.cell? ⟨NB,0,none⟩=some (.map (some nm)):=HT4.out.n.cell
 have cX:W4.cell? ⟨XB,0,none⟩=some (.pointer (some ⟨PL,0,none⟩)):=HT4.out.x.cell
 obtain ⟨cc,hcc⟩:∃ cc:Bool,cc=true ↔ B (offF ((k:Int)+2) i f)=B f:=by
  by_cases q:B (offF ((k:Int)+2) i f)=B f
  ·exact ⟨true,by simp [q]⟩
  ·exact ⟨false,by simp [q]⟩
 have HCC:=Lib.hid hcc
 have HSM:=Lib.hid (fun (m:List Pp) (hm:∀ p,p∈m ↔ Snd S (offF ((k:Int)+2) i f) p)=>(show cc=true ↔ ∀ p,p∈now ↔ p∈m by
  rw [hcc]
  constructor
  ·intro q p
   rw [hnow,hm,← hB f p,← hB _ p,q]
  ·intro q
   funext p
   have:=q p
   rw [hnow,hm,← hB f p,← hB _ p] at this
   exact (Bool.eq_iff_iff.2 this).symm))
 clear hcc
 have hdr:=hold2 (W0:=W4) ⟨Below.refl _ _,cN,cX⟩ ((Below.refl _ W4).drew)
 go_region_held3 (fun w'=>Below W4.heap.size W4 w'∧w'.cell? ⟨NB,0,none⟩=some (.map (some nm))∧w'.cell? ⟨XB,0,none⟩=some (.pointer (some ⟨PL,0,none⟩))) (first | exact hdr | exact hn | exact hn5 | assumption | fail) (first | (go_at_call 61;(with_reducible refine (HSO.out _ hdr.1).mono ?_);rintro e w2 ⟨mb,m,rfl,_,hmp,_,hmem,hb2⟩;have hn:=hold2 hdr hb2) | (go_at_call 65;(with_reducible refine (sameM_any nm mb now m _ (HT4.out.below hn.1).nm hmp cc (HSM.out m hmem)).mono ?_);rintro e w5 ⟨rfl,hb5⟩;have hn5:=hold2 hn hb5) | fail)
 have HT5:=Lib.hid (HT4.out.below hn5.1)
 have HBK:=Lib.hid (fun (W':World) (h:G2 fk mk w5 W')=>(G2.back HT3.out.pl HCP.out ⟨mp_not_blk HT3.out.f HT3.out.pl,mp_not_blk HT3.out.m HT3.out.pl⟩ (by rw [HW4.out];exact (G2.of_below hn5.1).trans h):G2 fk mk W3 (W'.setCell ⟨PL,1+ix,none⟩ (.bool true))))
 clear hdr hn hn5 hb2 hb5 hmp hmem cN cX HSO HSM
 obtain ⟨m',hm1,hm2⟩:=mput_setM (i:Int) Dm
 cases cc with
 | true =>
  have c1:w5.cell? ⟨PL,1+ix,none⟩=some (.bool false):=by rw [HT5.out.pl.cell];exact (plC_on (by rw [Array.size_setIfInBounds];exact hon.size) (onIx_lt hix)).trans (by rw [Array.getElem?_setIfInBounds_self_of_lt (by rw [hon.size];exact onIx_lt hix)])
  have f1:w5.frozen? ⟨PL,1+ix,none⟩=false:=HT5.out.pl.frozen _
  have HT6:=Lib.hid (HT5.out.set hz3 (1+ix) (.bool true))
  have HM1:=Lib.hid hm1
  have HM2:=Lib.hid hm2
  clear hm1 hm2
  go_wp2
  refine bodyPost_ret (results_none rfl _ _ _) rfl ?_
  exact ⟨rfl,HG3.out.trans (HBK.out _ (G2.refl _ _ _)),m',Df,by rw [← HM1.out];exact HT6.out.m,HT6.out.f,HID.out.keep hi HD1.out HD2.out (by rw [HFE.out];exact HCC.out.1 trivial) (fun x=>(HM2.out x).trans ⟨fun h=>h.elim .inr .inl,fun h=>h.elim .inr .inl⟩)⟩
 | false =>
  have hmm:=HT5.out.m
  have cM:w5.cell? ⟨MB,k,none⟩=some (.map (some mk)):=(HT5.out.M.cell _).trans hMk
  have hnd:=hmm.nodup
  obtain ⟨m2,hd1,hd2⟩:=mdel_setM (i:Int) m' (by have:=hnd;rw [hm1,setM_keys] at this;exact this)
  obtain ⟨m3,hp1,hp2⟩:=mput_setM (i:Int) Df
  have HMM:=Lib.hid (show ∀ x,x∈m2 ↔ x≠(i:Int)∧x∈Dm from fun x=>(hd2 x).trans ⟨fun h=>⟨h.1,((hm2 x).1 h.2).resolve_right h.1⟩,fun h=>⟨h.1,(hm2 x).2 (.inl h.2)⟩⟩)
  have HMF:=Lib.hid (show ∀ x,x∈m3 ↔ x=(i:Int)∨x∈Df from fun x=>(hp2 x).trans ⟨fun h=>h.elim .inr .inl,fun h=>h.elim .inr .inl⟩)
  have HD3:=Lib.hid hd1
  have HP3:=Lib.hid hp1
  have HM1:=Lib.hid hm1
  clear hd1 hd2 hp1 hp2 hm1 hm2 hnd
  obtain ⟨W6,hrun6,hm6,hg6,hs6⟩:=hmm.delete int_keys Tryz.underlying139 3 0 (i:Int)
  rw [HM1.out,HD3.out] at hm6
  have HT6:=Lib.hid (HT5.out.upM hn1 hne hz2 hg6 hm6)
  have HG6:=Lib.hid (G2.of_grown (a:=fk) (b:=mk) (.inr hg6))
  have hrun:(Builtin.delete_ #[139,3] 0 #[.map (some mk),.int .i64 i]).run Tryz.prog w5 = .ok (.tuple #[]) W6:=hrun6
  clear hmm hrun6 hm6 hg6 hs6
  have hff:=HT6.out.f
  have cF:W6.cell? ⟨FB,k,none⟩=some (.map (some fk)):=(HT6.out.F.cell _).trans hFk
  go_upto_region 6 with (at_mapUpdate;refine wpList_update_mp _ rfl _ _ _ 139 rfl 4 int_keys Tryz.underlying139 rfl hff (i:Int) (.bool true) rfl rfl ?_;intro W7 hm7 hg7 hs7)
  rw [HP3.out] at hm7
  have HT7:=Lib.hid (HT6.out.upF hn2 hne hz1 hg7 hm7)
  have HG7:=Lib.hid (HG6.out.trans (G2.of_grown (a:=fk) (b:=mk) (.inl hg7)))
  clear hff cF cM hrun hm7 hg7 hs7
  have c1:W7.cell? ⟨PL,1+ix,none⟩=some (.bool false):=by rw [HT7.out.pl.cell];exact (plC_on (by rw [Array.size_setIfInBounds];exact hon.size) (onIx_lt hix)).trans (by rw [Array.getElem?_setIfInBounds_self_of_lt (by rw [hon.size];exact onIx_lt hix)])
  have f1:W7.frozen? ⟨PL,1+ix,none⟩=false:=HT7.out.pl.frozen _
  have HT8:=Lib.hid (HT7.out.set hz3 (1+ix) (.bool true))
  go_wp2
  refine bodyPost_ret (results_none rfl _ _ _) rfl ?_
  exact ⟨rfl,HG3.out.trans (HBK.out _ HG7.out),m2,m3,HT8.out.m,HT8.out.f,HID.out.fail hi HD1.out (by rw [HFE.out];intro q;have:=HCC.out.2 q;cases this) HMM.out HMF.out⟩
end Go.Proofs.YthhfmppealmblaaGreatDoor
namespace Go.Proofs.YthhfmppealmblaaGreatDoor
open Go.RowKit Go.Shelf
structure GL (L:List Nat) (W W':World):Prop where
 os:W'.os=W.os
 tape:W'.tape=W.tape
 output:W'.output=W.output
 size:W.heap.size≤W'.heap.size
 block:∀ k,k<W.heap.size→k ∉ L→W'.heap[k]?=W.heap[k]?
theorem GL.trans {L:List Nat} {X Y Z:World} (h:GL L X Y) (k:GL L Y Z):GL L X Z:=⟨k.os.trans h.os,k.tape.trans h.tape,k.output.trans h.output,Nat.le_trans h.size k.size,fun i h1 h2=>(k.block i (Nat.lt_of_lt_of_le h1 h.size) h2).trans (h.block i h1 h2)⟩
theorem GL.of_below {L:List Nat} {W W':World} (h:Below W.heap.size W W'):GL L W W':=⟨h.os,h.tape,h.output,h.size,fun k hk _=>h.block k hk⟩
theorem GL.of2 {L:List Nat} {a b:Nat} {W W':World} (h:G2 a b W W') (ha:a∈L) (hb:b∈L):GL L W W':=⟨h.os,h.tape,h.output,h.size,fun k hk hn=>h.block k hk (fun e=>hn (e ▸ ha)) (fun e=>hn (e ▸ hb))⟩
theorem GL.below {L:List Nat} {n0:Nat} {W W':World} (h:GL L W W') (hL:∀ k∈L,n0≤k) (hn:n0≤W.heap.size):Below n0 W W':=⟨h.os,h.tape,h.output,h.size,fun k hk=>h.block k (by omega) (fun q=>by have:=hL k q;omega)⟩
theorem GL.from {L:List Nat} {B:Nat} {W W':World} (h:GL L W W') (hL:∀ k∈L,k<B):KeepsFrom B W W':=⟨h.size,fun k o hB hk _=>(h.block k (Array.getElem?_eq_some_iff.1 hk).1 (fun q=>by have:=hL k q;omega)).trans hk⟩
theorem GL.kp {L:List Nat} {n0:Nat} {W W':World} (h:GL L W W') (hL:∀ k∈L,n0≤k∧∃ es c,W.heap[k]?=some (.map es c)) (hn:n0≤W.heap.size):KpM n0 W W' :=
 ⟨h.below (fun k q=>(hL k q).1) hn,fun k cs t fr _ hk=>(h.block k (Array.getElem?_eq_some_iff.1 hk).1 (fun q=>by obtain ⟨_,es,c,e⟩:=hL k q;rw [hk] at e;cases e)).trans hk⟩
theorem Mp.same {κ:Type} {ek:κ→Value} {W W':World} {b:Nat} {l:List (κ × Value)} (h:Mp ek W b l) (e:W'.heap[b]?=W.heap[b]?):Mp ek W' b l:=by
 obtain ⟨es,c,hb,r⟩:=h
 exact ⟨es,c,e.trans hb,r⟩
theorem Blk.turn {W W':World} {B D:Nat} {t T:TypeId} {cs:Array Value} {row:Option Nat} (h:Blk W B t cs) (hg:W.grownBy W' row) (ht:Turn T D W row) (hne:t≠T):Blk W' B t cs:=h.grown hg (fun e=>by
 obtain ⟨_,o,ho,hc⟩:=ht B e
 rw [show W.heap[B]?=_ from h] at ho
 cases ho
 rcases hc with hc | ⟨cs,fr,hc⟩
 ·cases hc
 ·cases hc
  exact hne rfl)
structure IdS (w0:World) (Z:Nat) (A0 F0 A1 F1:List Int) (W:World):Prop where
 be:Below w0.heap.size w0 W
 F:Blk W (Z+5) 140 #[.map (some (Z+3)),.map (some (Z+4))]
 M:Blk W (Z+2) 140 #[.map (some Z),.map (some (Z+1))]
 m0:Mp ekI W Z (setM A0)
 m1:Mp ekI W (Z+1) (setM A1)
 f0:Mp ekI W (Z+3) (setM F0)
 f1:Mp ekI W (Z+4) (setM F1)
section
variable {w0 W0 : World} {Z : Nat} {A0 F0 A1 F1 : List Int} {W W' : World}
theorem IdS.below (h:IdS w0 Z A0 F0 A1 F1 W) (hb:Below W.heap.size W W'):IdS w0 Z A0 F0 A1 F1 W':=⟨below_step h.be hb,h.F.below hb,h.M.below hb,h.m0.below hb,h.m1.below hb,h.f0.below hb,h.f1.below hb⟩
theorem IdS.turn (h:IdS w0 Z A0 F0 A1 F1 W) {D:Nat} {row:Option Nat} (hD:w0.heap.size≤D) (hg:W.grownBy W' row) (ht:Turn 134 D W row):IdS w0 Z A0 F0 A1 F1 W' :=
 ⟨h.be.grown hg h.be.size (fun r e=>Nat.le_trans hD (ht r e).1),h.F.turn hg ht (by decide),h.M.turn hg ht (by decide),Mp.turn h.m0 hg ht,Mp.turn h.m1 hg ht,Mp.turn h.f0 hg ht,Mp.turn h.f1 hg ht⟩
def idW (W:World):World:=(((((W.alloc (.map #[] 0)).alloc (.map #[] 0)).alloc (.cells #[.map (some W.heap.size),.map (some (W.heap.size+1))] 140)).alloc (.map #[] 0)).alloc (.map #[] 0)).alloc (.cells #[.map (some (W.heap.size+3)),.map (some (W.heap.size+4))] 140)
theorem idW_below (W:World):Below W.heap.size W (idW W):=(((((((Below.refl W.heap.size W).alloc (Nat.le_refl _) _).alloc (by simp) _).alloc (by simp;omega) _).alloc (by simp;omega) _).alloc (by simp;omega) _).alloc (by simp;omega) _)
theorem mpK_alloc {κ:Type} {ek:κ→Value} {W:World} {b:Nat} {l:List (κ × Value)} (h:Mp ek W b l) (o:Obj):Mp ek (W.alloc o) b l:=h.below ((Below.refl _ W).alloc (Nat.le_refl _) o)
theorem IdS.start (h:Below w0.heap.size w0 W):IdS w0 W.heap.size [] [] [] [] (idW W):=by
 have a1:=Mp.made (ek:=ekI) (W.alloc (.map #[] 0))
 have a2:=Blk.new ((W.alloc (.map #[] 0)).alloc (.map #[] 0)) 140 #[.map (some W.heap.size),.map (some (W.heap.size+1))]
 have a3:=Mp.made (ek:=ekI) (((W.alloc (.map #[] 0)).alloc (.map #[] 0)).alloc (.cells #[.map (some W.heap.size),.map (some (W.heap.size+1))] 140))
 have a4:=Mp.made (ek:=ekI) ((((W.alloc (.map #[] 0)).alloc (.map #[] 0)).alloc (.cells #[.map (some W.heap.size),.map (some (W.heap.size+1))] 140)).alloc (.map #[] 0))
 have a5:=Blk.new (((((W.alloc (.map #[] 0)).alloc (.map #[] 0)).alloc (.cells #[.map (some W.heap.size),.map (some (W.heap.size+1))] 140)).alloc (.map #[] 0)).alloc (.map #[] 0)) 140 #[.map (some (W.heap.size+3)),.map (some (W.heap.size+4))]
 simp only [World.size_alloc] at a1 a2 a3 a4 a5
 exact ⟨below_step h (idW_below W),a5,((a2.alloc _).alloc _).alloc _,mpK_alloc (mpK_alloc (mpK_alloc (mpK_alloc (mpK_alloc (Mp.made W) _) _) _) _) _,mpK_alloc (mpK_alloc (mpK_alloc (mpK_alloc a1 _) _) _) _,mpK_alloc (mpK_alloc a3 _) _,mpK_alloc a4 _⟩
end
structure IdI (w0:World) (Z:Nat) (B:(Th→Int)→Pp→Bool) (S:Sp) (l:List Ev) (pre:List MoX) (W:World):Prop where
 ex:∃ A0 F0 A1 F1,IdS w0 Z A0 F0 A1 F1 W∧(∀ j,IdM B l 2 S.ss.length (pre.map (·.1)) j 0 A0 F0)∧(∀ j,IdM B l 3 S.cs.length (pre.map (·.1)) j 0 A1 F1)
theorem IdI.turn {w0:World} {Z D:Nat} {B:(Th→Int)→Pp→Bool} {S:Sp} {l:List Ev} {pre:List MoX} {A A':World} {row:Option Nat} (h:IdI w0 Z B S l pre A) (hD:w0.heap.size≤D) (hg:A.grownBy A' row) (ht:Turn 134 D A row):IdI w0 Z B S l pre A':=by
 obtain ⟨A0,F0,A1,F1,h1,h2,h3⟩:=h.ex
 exact ⟨A0,F0,A1,F1,h1.turn hD hg ht,h2,h3⟩
structure IdW (w0 W0:World) (Z PL XB NB nm:Nat) (now:List Pp) (C:Array Value) (A0 F0 A1 F1:List Int) (W:World):Prop where
 s:IdS w0 Z A0 F0 A1 F1 W
 pl:Blk W PL 134 C
 x:Boxed W XB 130 (.pointer (some ⟨PL,0,none⟩))
 n:Boxed W NB 131 (.map (some nm))
 nm:Mp ekP W nm (setM now)
 gl:GL [Z,Z+1,Z+3,Z+4] W0 W
section
variable {w0 W0 : World} {Z PL XB NB nm : Nat} {now : List Pp} {C : Array Value} {A0 F0 A1 F1 : List Int} {W W' : World}
theorem IdW.t0 (h:IdW w0 W0 Z PL XB NB nm now C A0 F0 A1 F1 W):TrS w0 PL XB NB nm (Z+5) (Z+2) (Z+3) Z now #[.map (some (Z+3)),.map (some (Z+4))] #[.map (some Z),.map (some (Z+1))] C (setM A0) (setM F0) W :=
 ⟨h.s.be,h.pl,h.x,h.n,h.nm,h.s.F,h.s.M,h.s.f0,h.s.m0⟩
theorem IdW.t1 (h:IdW w0 W0 Z PL XB NB nm now C A0 F0 A1 F1 W):TrS w0 PL XB NB nm (Z+5) (Z+2) (Z+4) (Z+1) now #[.map (some (Z+3)),.map (some (Z+4))] #[.map (some Z),.map (some (Z+1))] C (setM A1) (setM F1) W :=
 ⟨h.s.be,h.pl,h.x,h.n,h.nm,h.s.F,h.s.M,h.s.f1,h.s.m1⟩
theorem IdW.step0 (h:IdW w0 W0 Z PL XB NB nm now C A0 F0 A1 F1 W) (hz:w0.heap.size≤Z) (hn:Z+5<nm) (hg:G2 (Z+3) Z W W') {A F:List Int} (hm:Mp ekI W' Z (setM A)) (hf:Mp ekI W' (Z+3) (setM F)):IdW w0 W0 Z PL XB NB nm now C A F A1 F1 W':=by
 have k1:∀ {i:Nat} {t:TypeId} {cs:Array Value},Blk W i t cs→Blk W' i t cs:=fun hb=>(hg.block _ hb.lt (mp_not_blk h.s.f0 hb) (mp_not_blk h.s.m0 hb)).trans hb
 exact ⟨⟨h.s.be.trans (hg.below (by omega) hz h.s.be.size),k1 h.s.F,k1 h.s.M,hm,h.s.m1.same (hg.block _ h.s.m1.lt (by omega) (by omega)),hf,h.s.f1.same (hg.block _ h.s.f1.lt (by omega) (by omega))⟩,k1 h.pl,k1 (show Blk W XB _ #[_] from h.x),k1 (show Blk W NB _ #[_] from h.n),h.nm.same (hg.block _ h.nm.lt (by omega) (by omega)),h.gl.trans (.of2 hg (by simp) (by simp))⟩
theorem IdW.step1 (h:IdW w0 W0 Z PL XB NB nm now C A0 F0 A1 F1 W) (hz:w0.heap.size≤Z) (hn:Z+5<nm) (hg:G2 (Z+4) (Z+1) W W') {A F:List Int} (hm:Mp ekI W' (Z+1) (setM A)) (hf:Mp ekI W' (Z+4) (setM F)):IdW w0 W0 Z PL XB NB nm now C A0 F0 A F W':=by
 have k1:∀ {i:Nat} {t:TypeId} {cs:Array Value},Blk W i t cs→Blk W' i t cs:=fun hb=>(hg.block _ hb.lt (mp_not_blk h.s.f1 hb) (mp_not_blk h.s.m1 hb)).trans hb
 exact ⟨⟨h.s.be.trans (hg.below (by omega) (by omega) h.s.be.size),k1 h.s.F,k1 h.s.M,h.s.m0.same (hg.block _ h.s.m0.lt (by omega) (by omega)),hm,h.s.f0.same (hg.block _ h.s.f0.lt (by omega) (by omega)),hf⟩,k1 h.pl,k1 (show Blk W XB _ #[_] from h.x),k1 (show Blk W NB _ #[_] from h.n),h.nm.same (hg.block _ h.nm.lt (by omega) (by omega)),h.gl.trans (.of2 hg (by simp) (by simp))⟩
theorem Mp.is_map {κ:Type} {ek:κ→Value} {b:Nat} {l:List (κ × Value)} (h:Mp ek W b l):∃ es c,W.heap[b]?=some (.map es c):=by
 obtain ⟨es,c,hb,_⟩:=h
 exact ⟨es,c,hb⟩
theorem GL.rnd (h:GL [Z,Z+1,Z+3,Z+4] W W') (hs:IdS w0 Z A0 F0 A1 F1 W) (hz:w0.heap.size≤Z) {B:Nat} (hB:Z+5<B):KeepsFrom B W W'∧KpM w0.heap.size W W':=by
 refine ⟨h.from (fun k hk=>?_),h.kp (fun k hk=>?_) hs.be.size⟩
 ·simp only [List.mem_cons,List.mem_nil_iff,or_false] at hk
  omega
 ·simp only [List.mem_cons,List.mem_nil_iff,or_false] at hk
  rcases hk with rfl | rfl | rfl | rfl
  ·exact ⟨hz,hs.m0.is_map⟩
  ·exact ⟨by omega,hs.m1.is_map⟩
  ·exact ⟨by omega,hs.f0.is_map⟩
  ·exact ⟨by omega,hs.f1.is_map⟩
end
theorem idM_idL {B:(Th→Int)→Pp→Bool} {l:List Ev} (ha:Asc l) {k:Int} {n:Nat} {Dm Df L:List Int} (h:∀ j,IdM B l k n (momI l l.length) j 0 Dm Df) (hL:L.Pairwise (· < ·)) (hm:∀ x,x∈L ↔ x∈Dm):IdL B l k n L:=by
 refine ⟨hL,fun x=>?_⟩
 have e:∀ m,msA (momI l l.length) 0 0 m=momI l l.length:=fun m=>if_neg (Nat.not_lt_zero m)
 rw [hm x,(h 0).1 x]
 constructor
 ·rintro ⟨m,h1,h2,h3,h4⟩
  rw [e] at h3 h4
  exact ⟨m,h1,h2,(idleP_mom ha).2 ⟨h3,h4⟩⟩
 ·rintro ⟨m,h1,h2,h3⟩
  obtain ⟨h4,h5⟩:=(idleP_mom ha).1 h3
  exact ⟨m,h1,h2,by rw [e];exact h4,by rw [e];exact h5⟩
theorem MoP.low {w0:World} {v1 v2 v3 v4:Value} {fp:Nat→Value} {S:Sp} {PB:Nat} {l:List Ev} {pre:List MoX} {x:MoX} {W W':World} (h:MoP w0 v1 v2 v3 v4 fp S PB l pre x W) (hb:Below W.heap.size W W'):MoP w0 v1 v2 v3 v4 fp S PB l pre x W':=⟨h.lt,h.en,h.pr,h.py.below hb⟩
section
variable {F : Fence} {n : Nat} {P : Program}
theorem wpIn_range_Ta {α:Type} {g:Operand} {ps:Array Tmp} {assign body:Code} {Q:Exit→Act→World→Prop} {a:Act} {w:World}
  (hro:F.round=none) (h1:1≤n) {gf:Nat} {lb:Array Value} (hg:a.eval g = .func (.func gf) #[] lb) (hFg:F.fn gf) (eg:∀ args w,(callFunc gf args).run P w = .ok (.enter gf args) w)
  {encs:α→Array Value} {Kp:World→World→Prop} {Px:List α→α→World→Prop} {T:TypeId} {S:List α→Prop} (hseq:SeqT F (n-1) P gf lb encs Kp Px T S w)
  (hKt:∀ {A B C:World},Kp A B→Kp B C→Kp A C) (hKb:∀ (W:World) (l:Nat) (o o':Obj),w.heap.size≤l→W.heap[l]?=some o→ctlB o=true→Kp W (W.putObj l o')) (hKa:∀ (W:World) (o:Obj),w.heap.size≤W.heap.size→Kp W (W.alloc o)) (hps:∀ x,(encs x).size=ps.size)
  (I:List α→World→Prop) (hI:LastsT T w.heap.size I) (h0:I [] w) (fr:α→Nat→Act) (ob:α→Obj) (hob:∀ x,ctlB (ob x)=false)
  (hPx:∀ pre x (W:World) (l:Nat) (o o':Obj),w.heap.size≤l→W.heap[l]?=some o→ctlB o=true→Px pre x W→Px pre x (W.putObj l o'))
  (hPa:∀ pre x (W:World) (o:Obj),Px pre x W→Px pre x (W.alloc o))
  (hassign:∀ (l:Nat) (x:α) (W:World) (K:Act→World→Prop),K (fr x W.heap.size) (W.alloc (ob x)) →
   assign.wpIn (F.inRound l) (n-1-1) P (Exit.then K (fun _ _ _=>False)) { tmps:=(ps.zip (encs x)).foldl (fun t (p,v)=>t.setIfInBounds p v) a.tmps,defers:=[] } W)
  (hbody:∀ (l:Nat) (pre:List α) (x:α) (XB:Nat) (W:World),w.heap.size≤XB→W.heap[XB]?=some (ob x)→I pre W→Px pre x W→body.wpIn (F.inRound l) (n-1-1) P (rndT w.heap.size Kp I (pre++[x]) W) (fr x XB) W)
  (hdone:∀ (D:Nat) (xs:List α) (W:World),w.heap.size≤D→S xs→I xs W→W.heap[D]?=some (.deferred (some []))→Q .normal { a with defers:={ target:=.collected D,args:=#[] } :: a.defers } W) :
  (Code.rangeFunc g ps assign body).wpIn F n P Q a w :=
 wpIn_range_T hro h1 hg hFg eg hseq hKt hKb hps (fun pre W=>I pre W∧w.heap.size≤W.heap.size) (fun s A A' row hs hgr ht=>⟨hI s A A' row hs.1 hgr ht,Nat.le_trans hs.2 hgr.size⟩) ⟨h0,Nat.le_refl _⟩ (fun pre x a' W=>∃ XB,a'=fr x XB∧w.heap.size≤XB∧W.heap[XB]?=some (ob x)∧Px pre x W)
  (fun pre x a' W l o o' h1 h2 h3 h4=>by
   obtain ⟨XB,e1,e2,e3,e4⟩:=h4
   refine ⟨XB,e1,e2,?_,hPx pre x W l o o' h1 h2 h3 e4⟩
   refine (World.putObj_heap_other (fun e=>?_)).trans e3
   subst e
   rw [h2] at e3
   cases e3
   rw [hob] at h3
   cases h3)
  (fun l pre x W K hi hpx hK=>hassign l x W K (by
   have hb:Below W.heap.size W (W.alloc (ob x)):=(Below.refl _ W).alloc (Nat.le_refl _) _
   exact hK _ _ ⟨hb.size,fun k o _ hk _=>(hb.block k (Array.getElem?_eq_some_iff.1 hk).1).trans hk⟩ (hKa W _ hi.2) ⟨hI.new _ hi.1,Nat.le_trans hi.2 hb.size⟩ ⟨W.heap.size,rfl,hi.2,heap_alloc_new W _,hPa pre x W _ hpx⟩))
  (fun l pre x a' W hi hax=>by
   obtain ⟨XB,rfl,e2,e3,e4⟩:=hax
   refine wpIn_mono (hbody l pre x XB W e2 e3 hi.1 e4) ?_
   rintro e a3 W3 hp
   cases e with
   | normal=>exact ⟨hp.1,hp.2.1,hp.2.2,Nat.le_trans hi.2 hp.1.size⟩
   | _=>exact hp.elim)
  (fun D xs W hD hS hi hK=>hdone D xs W hD hS hi.1 hK)
end
end Go.Proofs.YthhfmppealmblaaGreatDoor
namespace Go.Proofs.YthhfmppealmblaaGreatDoor
open Go.RowKit
def IdR (S:Sp) (B:(Th→Int)→Pp→Bool) (l:List Ev) (w:World) (e:Ending) (w':World):Prop:=∃ vs vc L M,e = .returned (.tuple #[vs,vc,.int .i64 (audE S l)])∧w'.ownsRow w.heap.size 3 1 vs L.length (iCs L)∧w'.ownsRow w.heap.size 3 1 vc M.length (iCs M)∧(audE S l=0→IdL B l 2 S.ss.length L∧IdL B l 3 S.cs.length M)∧(audE S l≠0→L=[]∧M=[])∧Below w.heap.size w w'
end Go.Proofs.YthhfmppealmblaaGreatDoor
