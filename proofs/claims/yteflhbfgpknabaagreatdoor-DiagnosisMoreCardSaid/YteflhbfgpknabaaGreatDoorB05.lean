/-
  A part of the proof: VT,ZC,ShelfS,VU,VSp.
-/
import Derived.Test.YteflhbfgpknabaaGreatDoorB01
import Derived.Test.YteflhbfgpknabaaGreatDoorB04
import Derived.Test.YteflhbfgpknabaaGreatDoorL12
import Derived.Shelf.SlicesE.Clone
import Derived.Test.YteflhbfgpknabaaGreatDoorB03
import Derived.Shelf.SlSortCmp.NoneTotal
import Derived.Test.YteflhbfgpknabaaGreatDoorProg
import Derived.Test.YteflhbfgpknabaaGreatDoorL08
set_option maxRecDepth 100000
set_option maxHeartbeats 6400000
namespace Go.Proofs.YteflhbfgpknabaaGreatDoor
open Go.Lib (hid)
open Go.RowKit Go.Shelf
theorem ftCs_len (l:List Ft):(ftCs l).length=l.length * 3:=by
 unfold ftCs
 induction l with
 | nil=>rfl
 | cons a l ih=>rw [List.map_cons,List.flatten_cons,List.length_append,ih,List.length_cons];show 3+_=_;omega
theorem ftCs_one (l:List Ft):∀ u∈ftCs l,u.oneCell'=true:=by
 intro u hu
 obtain ⟨c,hc,hu⟩:=List.mem_flatten.1 hu
 obtain ⟨x,_,rfl⟩:=List.mem_map.1 hc
 simp only [ftC,List.mem_cons,List.not_mem_nil,or_false] at hu
 rcases hu with rfl | rfl | rfl <;> rfl
theorem ftCs_snoc (l:List Ft) (x:Ft):ftCs (l++[x])=ftCs l++[.int .i64 x.1,.int .i64 x.2.1,.int .i64 x.2.2]:=by simp [ftCs,ftC]
theorem ARd.of_fts {W:World} {base:Nat} {t:TypeId} {v:Value} {l:List Ft} (h:W.ownsRow base t 3 v l.length (ftCs l)):ARd W v 3 (l.map ftC) :=
 ARd.of_row (by intro r hr;obtain ⟨p,_,rfl⟩:=List.mem_map.1 hr;rfl) (by rw [List.length_map];exact h)
theorem cloneF_any (l:List Ft) (hn:l.length≤1000000) (base:Nat) (v:Value) (w:World) (h:w.ownsRow base 74 3 v l.length (ftCs l)) :
  Calls Tryz.prog 70 #[v] w fun e w'=>∃ v',e = .returned v'∧w'.ownsRow w.heap.size 74 3 v' l.length (ftCs l)∧Below w.heap.size w w':=by
 rcases h.2 with ⟨hv,h0⟩ | ⟨g,cap,cur,hv,hbg,hg,hcap,hmx,hsz,hxs⟩
 ·subst hv
  refine (AnyE.slices_Clone_nil Tryz.cloneFaults 0 0 w).mono ?_
  rintro e w' ⟨rfl,rfl⟩
  have hl0:l=[]:=List.length_eq_zero_iff.1 h0
  subst hl0
  exact ⟨_,rfl,World.ownsRow_nil _ _ _ _,Below.refl _ _⟩
 ·subst hv
  obtain ⟨i0,hi0,hz0,hz1,hz2⟩:=info_parts ftf_info
  have hc:∀ j u,(ftCs l)[j]?=some u→w.cell? ⟨g,0+j,none⟩=some u:=fun j u hj=>by
   have hlt:=(List.getElem?_eq_some_iff.1 hj).1
   rw [ftCs_len] at hlt
   rw [Nat.zero_add,Blk.cell hg j]
   rw [← hxs,List.getElem?_take,if_pos (by omega),Array.getElem?_toList] at hj
   exact hj
  refine (AnyE.slices_Clone Tryz.cloneFaults i0 (.agg #[.int .i64 0,.int .i64 0,.int .i64 0]) 3 24 hi0 hz0 hz1 hz2 rfl (by omega) (fun w=>by kernel_rfl) g 0 l.length cap (ftCs l) w (ftCs_len l) (by unfold maxLen;omega) (by omega) hc (ftCs_one l)).mono ?_
  rintro e w' ⟨v',rfl,h1,_,h2⟩
  exact ⟨v',rfl,h1,h2⟩
def lexC:List Ft→List Ft→Int
 | [],[]=>0
 | [],_ :: _ => -1
 | _ :: _,[]=>1
 | a :: l,b :: m=>if cfT a.1 a.2.1 a.2.2 b.1 b.2.1 b.2.2≠0 then cfT a.1 a.2.1 a.2.2 b.1 b.2.1 b.2.2 else lexC l m
theorem lexC_lt:∀ {a b:List Ft},a.length=b.length→(lexC a b<0↔lexLt a b)
 | [],[],_=>by simp [lexC,lexLt]
 | [],_ :: _,h=>by simp at h
 | _ :: _,[],h=>by simp at h
 | a :: l,b :: m,h=>by
  obtain ⟨a1,a2,a3⟩:=a
  obtain ⟨b1,b2,b3⟩:=b
  have ih:=lexC_lt (a:=l) (b:=m) (by simpa using h)
  have hz:=cfT_zero a1 a2 a3 b1 b2 b3
  have hl:=cfT_lt a1 a2 a3 b1 b2 b3
  unfold lexC lexLt
  simp only
  by_cases h0:cfT a1 a2 a3 b1 b2 b3=0
  ·rw [if_neg (by omega),ih]
   obtain ⟨rfl,rfl,rfl⟩:=hz.1 h0
   constructor
   ·exact fun q => .inr ⟨rfl,q⟩
   ·rintro (q | ⟨_,q⟩)
    ·exact absurd q (fLt_irr _)
    ·exact q
  ·rw [if_pos h0,hl]
   constructor
   ·exact fun q => .inl q
   ·rintro (q | ⟨q,_⟩)
    ·exact q
    ·exact absurd (hz.2 (by simpa using q)) h0
theorem lex_trans:∀ {a b c:List Ft},lexLt a b→lexLt b c→lexLt a c
 | [],_,_,h,_=>by cases h
 | _ :: _,[],_,h,_=>by cases h
 | _ :: _,_ :: _,[],_,h=>by cases h
 | a :: l,b :: m,c :: n,h,k=>by
  rcases h with h | ⟨rfl,h⟩ <;> rcases k with k | ⟨rfl,k⟩
  ·exact .inl (fLt_trans h k)
  ·exact .inl h
  ·exact .inl k
  ·exact .inr ⟨rfl,lex_trans h k⟩
theorem lexC_drop {a b:List Ft} {i:Nat} (h1:i<a.length) (h2:i<b.length):lexC (a.drop i) (b.drop i)=if cfT a[i].1 a[i].2.1 a[i].2.2 b[i].1 b[i].2.1 b[i].2.2≠0 then cfT a[i].1 a[i].2.1 a[i].2.2 b[i].1 b[i].2.1 b[i].2.2 else lexC (a.drop (i+1)) (b.drop (i+1)):=by
 rw [List.drop_eq_getElem_cons h1,List.drop_eq_getElem_cons h2,lexC]
theorem compF_any (a b:List Ft) (va vb:Value) (w:World) (hla:a.length≤1000000) (_hlb:b.length≤1000000) (ha:ARd w va 3 (a.map ftC)) (hb:ARd w vb 3 (b.map ftC)) :
  Calls Tryz.prog 74 #[va,vb,.func (.func 48) #[] #[]] w fun e w'=>e = .returned (.int .i64 (lexC a b))∧Grw w w':=by
 obtain ⟨aa,ca,ev⟩:=ha.ftForm
 subst ev
 obtain ⟨ab,cb,ev⟩:=hb.ftForm
 subst ev
 have HA:=hid ha
 have HBB:=hid hb
 have HG0:=hid (Grw.refl w)
 have HE0:=hid (show lexC (a.drop 0) (b.drop 0)=lexC a b from rfl)
 clear ha hb
 go_enter Tryz.func74,Tryz.ntmps74
 go_wp2
 go_loopw [13] (fun x wr=>∃ i:Nat,i≤a.length∧i≤b.length∧x = .int .i64 i∧Hid (lexC (a.drop i) (b.drop i)=lexC a b)∧Hid (Grw w wr)) (fun x _=>a.length-(intOf x).toNat)
 case atStart=>exact ⟨0,Nat.zero_le _,Nat.zero_le _,rfl,HE0,HG0⟩
 clear HE0 HG0
 obtain ⟨i,hi,hib,rfl,hE,hG⟩:=hrel
 by_cases hil:i<a.length
 ·have hi2:(i:Int)<(a.length:Int):=by omega
  obtain ⟨b1,o1,c1,ev,hbl1,p0,p1,p2⟩:=(HA.out.later hG.out.below).ftAt i hil
  cases ev
  by_cases hjl:i<b.length
  ·have hj2:¬ ((b.length:Int)≤(i:Int)):=by omega
   have hj3:(i:Int)<(b.length:Int):=by omega
   obtain ⟨b2,o2,c2,ev,hbl2,q0,q1,q2⟩:=(HBB.out.later hG.out.below).ftAt i hjl
   cases ev
   have HLD:=hid (hE.out.symm.trans (lexC_drop hil hjl))
   obtain ⟨x,hx⟩:∃ x,a[i]=x:=⟨_,rfl⟩
   obtain ⟨y,hy⟩:∃ y,b[i]=y:=⟨_,rfl⟩
   rw [hx] at p0 p1 p2 HLD
   rw [hy] at q0 q1 q2 HLD
   obtain ⟨x1,x2,x3⟩:=x
   obtain ⟨y1,y2,y3⟩:=y
   simp only at p0 p1 p2 q0 q1 q2
   have q0:=(cell_alloc q0 (.cells #[.int .i64 x1,.int .i64 x2,.int .i64 x3] 74))
   have q1:=(cell_alloc q1 (.cells #[.int .i64 x1,.int .i64 x2,.int .i64 x3] 74))
   have q2:=(cell_alloc q2 (.cells #[.int .i64 x1,.int .i64 x2,.int .i64 x3] 74))
   have HG2:=hid ((hG.out.alloc (.cells #[.int .i64 x1,.int .i64 x2,.int .i64 x3] 74)).alloc (.cells #[.int .i64 y1,.int .i64 y2,.int .i64 y3] 74))
   clear hx hy hE hbl1 hbl2
   go_wp2_with fail
   refine (byFault_any x1 x2 x3 y1 y2 y3 _).mono ?_
   rintro e W3 ⟨rfl,hg3⟩
   have HG3:=hid (HG2.out.trans hg3)
   clear hg3 HG2 hG p0 p1 p2 q0 q1 q2
   obtain ⟨n,hn⟩:∃ n,cfT x1 x2 x3 y1 y2 y3=n:=⟨_,rfl⟩
   rw [hn]
   by_cases hz:n=0
   ·have z1:(n==0)=true:=by simpa using hz
    have z2:(n != 0)=false:=by simpa using hz
    have HE2:=hid (show lexC (a.drop (i+1)) (b.drop (i+1))=lexC a b from by
     have:=HLD.out
     simp only [hn] at this
     rw [if_neg (by omega)] at this
     exact this.symm)
    clear hn hz HLD
    go_wp2
    go_roundw
    case rel=>exact ⟨i+1,by omega,by omega,by go_num,HE2,HG3⟩
    case measure=>simp [intOf];omega
   ·have z1:(n==0)=false:=by simpa using hz
    have z2:(n != 0)=true:=by simpa using hz
    have HE2:=hid (show lexC a b=n from by
     have:=HLD.out
     simp only [hn] at this
     rw [if_pos hz] at this
     exact this)
    clear hn hz HLD
    go_wp2
    go_ret
    exact ⟨by rw [HE2.out];rfl,HG3.out⟩
  ·have hj2:(b.length:Int)≤(i:Int):=by omega
   have HE2:=hid (show lexC a b=1 from by
    rw [← hE.out,List.drop_eq_getElem_cons hil,List.drop_eq_nil_of_le (show b.length≤i by omega)]
    rfl)
   have HG2:=hid (hG.out.alloc (.cells #[.int .i64 a[i].1,.int .i64 a[i].2.1,.int .i64 a[i].2.2] 74))
   clear hE
   go_wp2
   go_ret
   exact ⟨by rw [HE2.out];rfl,HG2.out⟩
 ·have hi2:¬ (i:Int)<(a.length:Int):=by omega
  by_cases hjl:a.length<b.length
  ·have hj2:(a.length:Int)<(b.length:Int):=by omega
   have HE2:=hid (show lexC a b = -1 from by
    rw [← hE.out,List.drop_eq_getElem_cons (show i<b.length by omega),List.drop_eq_nil_of_le (show a.length≤i by omega)]
    rfl)
   clear hE
   go_wp2
   go_ret
   exact ⟨by rw [HE2.out];rfl,hG.out⟩
  ·have hj2:¬ (a.length:Int)<(b.length:Int):=by omega
   have HE2:=hid (show lexC a b=0 from by
    rw [← hE.out,List.drop_eq_nil_of_le (show b.length≤i by omega),List.drop_eq_nil_of_le (show a.length≤i by omega)]
    rfl)
   clear hE
   go_wp2
   go_ret
   exact ⟨by rw [HE2.out];rfl,hG.out⟩
theorem sets2_any (a b:List Ft) (va vb:Value) (w:World) (hla:a.length≤1000000) (hlb:b.length≤1000000) (ha:ARd w va 3 (a.map ftC)) (hb:ARd w vb 3 (b.map ftC)) :
  Calls Tryz.prog 73 #[va,vb] w fun e w'=>e = .returned (.int .i64 (lexC a b))∧Grw w w':=by
 obtain ⟨aa,ca,ev⟩:=ha.ftForm
 subst ev
 obtain ⟨ab,cb,ev⟩:=hb.ftForm
 subst ev
 have HC:=hid (compF_any a b _ _ w hla hlb ha hb)
 clear ha hb
 go_enter Tryz.func73,Tryz.ntmps73
 go_wp2_with fail
 refine HC.out.mono ?_
 rintro e W3 ⟨rfl,hg⟩
 have HG:=hid hg
 clear hg HC
 go_wp2
 go_ret
 exact ⟨rfl,HG.out⟩
end Go.Proofs.YteflhbfgpknabaaGreatDoor
namespace Go.Proofs.YteflhbfgpknabaaGreatDoor
open Go.Lib (hid)
open Go.RowKit
structure KpF (X:Nat) (W W':World):Prop where
 size:W.heap.size≤W'.heap.size
 row:∀ v n xs,W.ownsRow X 74 3 v n xs→W'.ownsRow X 74 3 v n xs
theorem row_apart {W:World} {b b2:Nat} {t t2:TypeId} {k k2 n n2:Nat} {v v2:Value} {xs xs2:List Value} (h:W.ownsRow b t k v n xs) (h2:W.ownsRow b2 t2 k2 v2 n2 xs2) (hne:t≠t2):v.ownBlock=none∨v.ownBlock≠v2.ownBlock:=by
 rcases h.2 with ⟨rfl,_⟩ | ⟨g,cap,cur,rfl,_,hg,_⟩
 ·exact .inl rfl
 ·right
  rcases h2.2 with ⟨rfl,_⟩ | ⟨g2,cap2,cur2,rfl,_,hg2,_⟩
  ·simp [Value.ownBlock]
  ·intro q
   have q2:g=g2:=by simpa [Value.ownBlock] using q
   subst q2
   rw [hg] at hg2
   cases hg2
   exact hne rfl
theorem KpF.refl (X:Nat) (W:World):KpF X W W:=⟨Nat.le_refl _,fun _ _ _ h=>h⟩
theorem KpF.trans {X:Nat} {A B C:World} (h:KpF X A B) (k:KpF X B C):KpF X A C:=⟨Nat.le_trans h.size k.size,fun v n xs r=>k.row v n xs (h.row v n xs r)⟩
theorem KpF.below {X:Nat} {W W':World} (hb:Below W.heap.size W W'):KpF X W W':=⟨hb.size,fun _ _ _ h=>row_later h hb⟩
def dsFn (N:Nat):Value:=.func (.func 68) #[] #[.pointer (some ⟨N+4,0,none⟩),.pointer (some ⟨N+2,0,none⟩),.pointer (some ⟨N,0,none⟩),.pointer (some ⟨N+1,0,none⟩),.pointer (some ⟨N+5,0,none⟩),.pointer (some ⟨N+6,0,none⟩)]
structure DsW (w:World) (v1 v2 v3 v4 tv:Value) (many:Nat) (V O:List (List Ft)) (g:Nat→Value) (vo:Value) (W:World):Prop where
 b:Below w.heap.size w W
 sp:Blk W w.heap.size 27 #[v1,v2,v3,v4]
 tl:Blk W (w.heap.size+1) 33 #[tv]
 my:Blk W (w.heap.size+2) 3 #[.int .i64 many]
 sn:Blk W (w.heap.size+4) 110 #[.map (some (w.heap.size+3))]
 ou:Blk W (w.heap.size+5) 43 #[vo]
 ad:Blk W (w.heap.size+6) 111 #[dsFn w.heap.size]
 mp:Mp ekT W (w.heap.size+3) (setU (V.map triOf))
 row:W.ownsRow (w.heap.size+7) 28 1 vo O.length ((List.range O.length).map g)
 st:∀ i (hi:i<O.length),W.ownsRow (w.heap.size+7) 74 3 (g i) O[i].length (ftCs O[i])
section
variable {w W W' : World} {v1 v2 v3 v4 tv : Value} {many : Nat} {V O : List (List Ft)} {g : Nat → Value} {vo : Value}
theorem DsW.later (h:DsW w v1 v2 v3 v4 tv many V O g vo W) (hb:Below W.heap.size W W'):DsW w v1 v2 v3 v4 tv many V O g vo W' :=
 ⟨below_step h.b hb,h.sp.below hb,h.tl.below hb,h.my.below hb,h.sn.below hb,h.ou.below hb,h.ad.below hb,h.mp.below hb,row_later h.row hb,fun i hi=>row_later (h.st i hi) hb⟩
theorem KpF.far {X:Nat} {row:Option Nat} (hg:W.grownBy W' row) (hr:∀ r,row=some r→r<X):KpF X W W' :=
 ⟨hg.size,fun v n xs h=>h.kept hg (by
  cases hv:v.ownBlock with
  | none=>exact .inl rfl
  | some k=>exact .inr fun e=>by have:=row_ge h hv;have:=hr k e.symm;omega)⟩
theorem KpF.apart {X X' k n:Nat} {t:TypeId} {v:Value} {xs:List Value} (h:W.ownsRow X' t k v n xs) (ht:t≠74) (hg:W.grownBy W' v.ownBlock):KpF X W W' :=
 ⟨hg.size,fun _ _ _ r=>r.kept hg (row_apart r h (fun e=>ht e.symm))⟩
theorem DsW.seen (h:DsW w v1 v2 v3 v4 tv many V O g vo W) {f:List Ft} (hm:Mp ekT W' (w.heap.size+3) (setU ((V++[f]).map triOf))) (hg:W.grownBy W' (some (w.heap.size+3))):DsW w v1 v2 v3 v4 tv many (V++[f]) O g vo W'∧KpF (w.heap.size+7) W W':=by
 have hne:∀ {B:Nat} {t:TypeId} {cs:Array Value},Blk W B t cs→some (w.heap.size+3)≠some B:=fun hb e=>mp_blk_ne h.mp hb (Option.some.inj e)
 have hk:KpF (w.heap.size+7) W W':=KpF.far hg (fun r e=>by cases e;omega)
 exact ⟨⟨h.b.grown hg h.b.size (fun k e=>by cases e;omega),h.sp.grown hg (hne h.sp),h.tl.grown hg (hne h.tl),h.my.grown hg (hne h.my),h.sn.grown hg (hne h.sn),h.ou.grown hg (hne h.ou),h.ad.grown hg (hne h.ad),hm,owns_kept h.row hg (mp_not h.mp),fun i hi=>hk.row _ _ _ (h.st i hi)⟩,hk⟩
end
end Go.Proofs.YteflhbfgpknabaaGreatDoor
namespace Go.Proofs
open Go.Shelf
def Tryz.sortFts_ren:Go.Shelf.Ren:=⟨fun | 6=>71 | 15=>109 | 14=>108 | 28=>139 | 29=>140 | 20=>131 | 21=>132 | 22=>133 | 23=>134 | 24=>135 | 25=>136 | 26=>137 | 27=>138 | 46=>164 | 47=>165 | 48=>166 | 49=>167 | 50=>168 | 57=>189 | n=>n,fun | 22=>28 | 24=>74 | 25=>94 | 3=>3 | 39=>164 | 0=>0 | 53=>191 | 55=>193 | 4=>4 | 46=>185 | 45=>184 | 50=>124 | 5=>5 | 9=>9 | 66=>221 | 70=>225 | 76=>243 | 77=>244 | n=>n,fun | n=>n⟩
theorem Tryz.sortFts:Go.Proofs.SlLaysF0.n6 Tryz.prog Tryz.sortFts_ren:={
 mixed:=by kernel_rfl
 f6:=⟨Tryz.f71.name,by decide,Tryz.func71.trans (congrArg some (by kernel_rfl))⟩
 f14:=⟨Tryz.f108.name,by decide,Tryz.func108.trans (congrArg some (by kernel_rfl))⟩
 f15:=Tryz.func109.trans (congrArg some (by kernel_rfl))
 f20:=⟨Tryz.f131.name,by decide,Tryz.func131.trans (congrArg some (by kernel_rfl))⟩
 f21:=⟨Tryz.f132.name,by decide,Tryz.func132.trans (congrArg some (by kernel_rfl))⟩
 f22:=⟨Tryz.f133.name,by decide,Tryz.func133.trans (congrArg some (by kernel_rfl))⟩
 f23:=⟨Tryz.f134.name,by decide,Tryz.func134.trans (congrArg some (by kernel_rfl))⟩
 f24:=⟨Tryz.f135.name,by decide,Tryz.func135.trans (congrArg some (by kernel_rfl))⟩
 f25:=⟨Tryz.f136.name,by decide,Tryz.func136.trans (congrArg some (by kernel_rfl))⟩
 f26:=⟨Tryz.f137.name,by decide,Tryz.func137.trans (congrArg some (by kernel_rfl))⟩
 f27:=⟨Tryz.f138.name,by decide,Tryz.func138.trans (congrArg some (by kernel_rfl))⟩
 f28:=Tryz.func139.trans (congrArg some (by kernel_rfl))
 f29:=Tryz.func140.trans (congrArg some (by kernel_rfl))
 f46:=⟨Tryz.f164.name,by decide,Tryz.func164.trans (congrArg some (by kernel_rfl))⟩
 f47:=Tryz.func165.trans (congrArg some (by kernel_rfl))
 f48:=Tryz.func166.trans (congrArg some (by kernel_rfl))
 f49:=⟨Tryz.f167.name,by decide,Tryz.func167.trans (congrArg some (by kernel_rfl))⟩
 f50:=⟨Tryz.f168.name,by decide,Tryz.func168.trans (congrArg some (by kernel_rfl))⟩
 f57:=⟨Tryz.f189.name,by decide,Tryz.func189.trans (congrArg some (by kernel_rfl))⟩
 t0:=Tryz.underlying0
 a0:=Tryz.isAgg0
 z0:=Tryz.sizeOf0
 v0:=Tryz.zeroValue0
 t3:=Tryz.underlying3
 a3:=Tryz.isAgg3
 z3:=Tryz.sizeOf3
 v3:=Tryz.zeroValue3
 t4:=Tryz.underlying4
 a4:=Tryz.isAgg4
 z4:=Tryz.sizeOf4
 v4:=Tryz.zeroValue4
 t5:=Tryz.underlying5
 a5:=Tryz.isAgg5
 z5:=Tryz.sizeOf5
 v5:=Tryz.zeroValue5
 t9:=Tryz.underlying9
 a9:=Tryz.isAgg9
 z9:=Tryz.sizeOf9
 v9:=Tryz.zeroValue9
 t22:=Tryz.underlying28
 a22:=Tryz.isAgg28
 z22:=Tryz.sizeOf28
 v22:=Tryz.zeroValue28
 t25:=Tryz.underlying94
 a25:=Tryz.isAgg94
 z25:=Tryz.sizeOf94
 v25:=Tryz.zeroValue94
 t39:=Tryz.underlying164
 a39:=Tryz.isAgg164
 z39:=Tryz.sizeOf164
 v39:=Tryz.zeroValue164
 t45:=Tryz.underlying184
 a45:=Tryz.isAgg184
 z45:=Tryz.sizeOf184
 v45:=Tryz.zeroValue184
 t46:=Tryz.underlying185
 a46:=Tryz.isAgg185
 z46:=Tryz.sizeOf185
 v46:=Tryz.zeroValue185
 t50:=Tryz.underlying124
 a50:=Tryz.isAgg124
 z50:=Tryz.sizeOf124
 v50:=Tryz.zeroValue124
 t53:=Tryz.underlying191
 a53:=Tryz.isAgg191
 z53:=Tryz.sizeOf191
 v53:=Tryz.zeroValue191
 t55:=Tryz.underlying193
 a55:=Tryz.isAgg193
 z55:=Tryz.sizeOf193
 v55:=Tryz.zeroValue193
 t66:=Tryz.underlying221
 a66:=Tryz.isAgg221
 z66:=Tryz.sizeOf221
 v66:=Tryz.zeroValue221
 t70:=Tryz.underlying225
 a70:=Tryz.isAgg225
 z70:=Tryz.sizeOf225
 v70:=Tryz.zeroValue225
 t76:=Tryz.underlying243
 a76:=Tryz.isAgg243
 z76:=Tryz.sizeOf243
 v76:=Tryz.zeroValue243
 t77:=Tryz.underlying244
 a77:=Tryz.isAgg244
 z77:=Tryz.sizeOf244
 v77:=Tryz.zeroValue244 }
def Tryz.sortSets_ren:Go.Shelf.Ren:=⟨fun | 6=>72 | 15=>109 | 14=>110 | 28=>139 | 29=>140 | 20=>141 | 21=>142 | 22=>143 | 23=>144 | 24=>145 | 25=>146 | 26=>147 | 27=>148 | 46=>169 | 47=>165 | 48=>166 | 49=>170 | 50=>171 | 57=>190 | n=>n,fun | 22=>43 | 24=>28 | 25=>121 | 3=>3 | 39=>164 | 0=>0 | 53=>191 | 55=>193 | 4=>4 | 46=>185 | 45=>184 | 50=>124 | 5=>5 | 9=>9 | 66=>221 | 70=>225 | 76=>243 | 77=>244 | n=>n,fun | n=>n⟩
theorem Tryz.sortSets:Go.Proofs.SlLaysF0.n6 Tryz.prog Tryz.sortSets_ren:={
 mixed:=by kernel_rfl
 f6:=⟨Tryz.f72.name,by decide,Tryz.func72.trans (congrArg some (by kernel_rfl))⟩
 f14:=⟨Tryz.f110.name,by decide,Tryz.func110.trans (congrArg some (by kernel_rfl))⟩
 f15:=Tryz.func109.trans (congrArg some (by kernel_rfl))
 f20:=⟨Tryz.f141.name,by decide,Tryz.func141.trans (congrArg some (by kernel_rfl))⟩
 f21:=⟨Tryz.f142.name,by decide,Tryz.func142.trans (congrArg some (by kernel_rfl))⟩
 f22:=⟨Tryz.f143.name,by decide,Tryz.func143.trans (congrArg some (by kernel_rfl))⟩
 f23:=⟨Tryz.f144.name,by decide,Tryz.func144.trans (congrArg some (by kernel_rfl))⟩
 f24:=⟨Tryz.f145.name,by decide,Tryz.func145.trans (congrArg some (by kernel_rfl))⟩
 f25:=⟨Tryz.f146.name,by decide,Tryz.func146.trans (congrArg some (by kernel_rfl))⟩
 f26:=⟨Tryz.f147.name,by decide,Tryz.func147.trans (congrArg some (by kernel_rfl))⟩
 f27:=⟨Tryz.f148.name,by decide,Tryz.func148.trans (congrArg some (by kernel_rfl))⟩
 f28:=Tryz.func139.trans (congrArg some (by kernel_rfl))
 f29:=Tryz.func140.trans (congrArg some (by kernel_rfl))
 f46:=⟨Tryz.f169.name,by decide,Tryz.func169.trans (congrArg some (by kernel_rfl))⟩
 f47:=Tryz.func165.trans (congrArg some (by kernel_rfl))
 f48:=Tryz.func166.trans (congrArg some (by kernel_rfl))
 f49:=⟨Tryz.f170.name,by decide,Tryz.func170.trans (congrArg some (by kernel_rfl))⟩
 f50:=⟨Tryz.f171.name,by decide,Tryz.func171.trans (congrArg some (by kernel_rfl))⟩
 f57:=⟨Tryz.f190.name,by decide,Tryz.func190.trans (congrArg some (by kernel_rfl))⟩
 t0:=Tryz.underlying0
 a0:=Tryz.isAgg0
 z0:=Tryz.sizeOf0
 v0:=Tryz.zeroValue0
 t3:=Tryz.underlying3
 a3:=Tryz.isAgg3
 z3:=Tryz.sizeOf3
 v3:=Tryz.zeroValue3
 t4:=Tryz.underlying4
 a4:=Tryz.isAgg4
 z4:=Tryz.sizeOf4
 v4:=Tryz.zeroValue4
 t5:=Tryz.underlying5
 a5:=Tryz.isAgg5
 z5:=Tryz.sizeOf5
 v5:=Tryz.zeroValue5
 t9:=Tryz.underlying9
 a9:=Tryz.isAgg9
 z9:=Tryz.sizeOf9
 v9:=Tryz.zeroValue9
 t22:=Tryz.underlying43
 a22:=Tryz.isAgg43
 z22:=Tryz.sizeOf43
 v22:=Tryz.zeroValue43
 t25:=Tryz.underlying121
 a25:=Tryz.isAgg121
 z25:=Tryz.sizeOf121
 v25:=Tryz.zeroValue121
 t39:=Tryz.underlying164
 a39:=Tryz.isAgg164
 z39:=Tryz.sizeOf164
 v39:=Tryz.zeroValue164
 t45:=Tryz.underlying184
 a45:=Tryz.isAgg184
 z45:=Tryz.sizeOf184
 v45:=Tryz.zeroValue184
 t46:=Tryz.underlying185
 a46:=Tryz.isAgg185
 z46:=Tryz.sizeOf185
 v46:=Tryz.zeroValue185
 t50:=Tryz.underlying124
 a50:=Tryz.isAgg124
 z50:=Tryz.sizeOf124
 v50:=Tryz.zeroValue124
 t53:=Tryz.underlying191
 a53:=Tryz.isAgg191
 z53:=Tryz.sizeOf191
 v53:=Tryz.zeroValue191
 t55:=Tryz.underlying193
 a55:=Tryz.isAgg193
 z55:=Tryz.sizeOf193
 v55:=Tryz.zeroValue193
 t66:=Tryz.underlying221
 a66:=Tryz.isAgg221
 z66:=Tryz.sizeOf221
 v66:=Tryz.zeroValue221
 t70:=Tryz.underlying225
 a70:=Tryz.isAgg225
 z70:=Tryz.sizeOf225
 v70:=Tryz.zeroValue225
 t76:=Tryz.underlying243
 a76:=Tryz.isAgg243
 z76:=Tryz.sizeOf243
 v76:=Tryz.zeroValue243
 t77:=Tryz.underlying244
 a77:=Tryz.isAgg244
 z77:=Tryz.sizeOf244
 v77:=Tryz.zeroValue244 }
end Go.Proofs
namespace Go.Proofs.YteflhbfgpknabaaGreatDoor
open Go.Lib (hid)
open Go.RowKit Go.Shelf
instance (a b:Ft):Decidable (fLt a b):=by unfold fLt;infer_instance
def cfTP (a b:Ft):Int:=cfT a.1 a.2.1 a.2.2 b.1 b.2.1 b.2.2
theorem ltFt (x y:Ft):ltOf cfTP x y=decide (fLt x y):=by
 rw [Bool.eq_iff_iff,decide_eq_true_iff]
 unfold ltOf
 rw [decide_eq_true_iff]
 exact cfT_lt _ _ _ _ _ _
theorem swoFt:Sort.SWO (ltOf cfTP) where
 irrefl x:=by rw [ltFt];simpa using fLt_irr x
 trans x y z h1 h2:=by rw [ltFt] at *;simp only [decide_eq_true_eq] at *;exact fLt_trans h1 h2
 ntrans x y z h1 h2:=by
  rw [ltFt] at *
  simp only [decide_eq_false_iff_not] at *
  intro h
  rcases fLt_total x y with q | rfl | q
  ·exact h1 q
  ·exact h2 h
  ·exact h2 (fLt_trans q h)
theorem sortFt_any (l:List Ft) (hn:l.length≤1000000000) (base:Nat) (v:Value) (w:World) (h:w.ownsRow base 74 3 v l.length (ftCs l)) :
  Calls Tryz.prog 71 #[v,.func (.func 48) #[] #[]] w fun e w'=>e = .returned (.tuple #[])∧∃ m:List Ft,m.Perm l∧(m.Pairwise fun a b=>¬ fLt b a)∧w'.ownsRow base 74 3 v m.length (ftCs m)∧w.grownBy w' v.ownBlock:=by
 unfold ftCs at h ⊢
 rcases h.2 with ⟨hv,h0⟩ | ⟨g,cap,cur,hv,hbg,hg,hrest⟩
 ·have hl0:l=[]:=List.length_eq_zero_iff.1 h0
  subst hl0
  have hcon:=AnyF.slices_SortFunc_none Tryz.sortFts none 0 (.func (.func 48) #[] #[]) w
  rw [← hv] at hcon
  change Calls Tryz.prog 71 _ _ _ at hcon
  refine hcon.mono ?_
  rintro e w' ⟨rfl,rfl⟩
  exact ⟨rfl,[],List.Perm.refl _,List.Pairwise.nil,h,World.grownBy.refl _ _⟩
 ·obtain ⟨d,hd⟩:∃ d:Array Ft,d.toList=l:=⟨l.toArray,rfl⟩
  have hsz:d.size=l.length:=by rw [← hd,Array.length_toList]
  have eg:∀ args w,(callFunc 48 args).run Tryz.prog w = .ok (.enter 48 args) w:=enters_of Tryz.func48 (by kernel_rfl) rfl
  have h':=h
  rw [hv,← hd] at h'
  rw [Array.length_toList] at h'
  have hH:=holdsK_row (enc:=ftC) (k:=3) (fun _=>rfl) h'
  have hcon:=AnyQ.slices_SortFunc Tryz.sortFts 3 Tryz.isAgg74 Tryz.sizeOf74 ftC (fun _=>rfl) (fun x v hv=>by simp [ftC] at hv;rcases hv with rfl | rfl | rfl <;> rfl) cfTP swoFt 48 #[] g 0 cap d w eg (fun _ _ _ _ x y=>byFault_any x.1 x.2.1 x.2.2 y.1 y.2.1 y.2.2 _) hH.1 hH.2 (by omega)
  rw [hsz,← hv] at hcon
  change Calls Tryz.prog 71 _ _ _ at hcon
  refine hcon.mono ?_
  rintro e w' ⟨rfl,d',n,os,hp,hs,rfl⟩
  obtain ⟨hsz2,_,hperm⟩:=hp
  rw [← hsz] at hperm hs
  have e1:d'.extract 0 d.size=d':=by rw [← hsz2];exact Array.extract_size
  rw [e1,Array.extract_size] at hperm
  refine ⟨rfl,d'.toList,?_,?_,?_,?_⟩
  ·rw [← hd];exact hperm
  ·rw [List.pairwise_iff_getElem]
   intro i j hi hj hij
   have hj':j<d'.size:=by simpa using hj
   have hi':i<d'.size:=by simpa using hi
   have:=hs i j (Nat.zero_le _) hij (by omega)
   rw [ltFt,getElem!_pos d' i hi',getElem!_pos d' j hj'] at this
   simpa using this
  ·have:=sorted_row (enc:=ftC) (n:=n) (os:=os) (fun _=>rfl) hsz2 h'
   rw [hv,← hsz]
   simpa [Array.length_toList] using this
  ·rw [hv];exact sorted_grown
section
variable {α : Type} [Inhabited α] {enc : α → Value}
theorem sort1_heap {W:World} {g n:Nat} {d:Array α} {os:Array Obj} {cur:Array Value} {e:TypeId} {fr:Nat × Nat} (h:W.heap[g]?=some (.cells cur e fr)) :
  (sortWorld enc W g 0 n d os).heap[g]?=some (.cells (Sort.putCells enc 0 d cur) e fr):=by
 have hlt:=(Array.getElem?_eq_some_iff.1 h).1
 show (((Sort.mapBlock (Sort.ahead W n) g _).heap)++os)[g]?=_
 rw [Array.getElem?_append_left (by simpa [Sort.mapBlock] using hlt)]
 show ((Sort.ahead W n).heap.modify g _)[g]?=_
 rw [Array.getElem?_modify,if_pos rfl]
 show Option.map _ (W.heap[g]?)=_
 simp only [h,Option.map_some]
 rfl
theorem sort1_row {W:World} {base g:Nat} {t:TypeId} {m cap n:Nat} {d d':Array α} {os:Array Obj} (hs:d'.size=d.size) (h:W.ownsRow base t 1 (.slice (some ⟨g,0,none⟩) m cap) d.size (d.toList.map enc)) :
  (sortWorld enc W g 0 n d' os).ownsRow base t 1 (.slice (some ⟨g,0,none⟩) m cap) d'.size (d'.toList.map enc):=by
 obtain ⟨hl,⟨e,_⟩ | ⟨g',cap',cur,e,hbg,hg,hn,hmx,hz,hx⟩⟩:=h
 ·cases e
 ·cases e
  have hle:d'.size≤cur.size:=by omega
  refine ⟨by simp,.inr ⟨g,cap,_,by rw [hs],hbg,sort1_heap hg,by rw [hs];exact hn,hmx,by simp [Sort.putCells,hz],?_⟩⟩
  apply List.ext_getElem?
  intro j
  rw [List.getElem?_take,Array.getElem?_toList]
  rw [List.getElem?_map,Array.getElem?_toList]
  by_cases ht:j<d'.size
  ·rw [if_pos (by omega)]
   simp only [Sort.putCells,Array.getElem?_mapIdx]
   rw [Array.getElem?_eq_getElem (by omega),Option.map_some,if_pos ⟨Nat.zero_le _,by omega⟩,Nat.sub_zero,getElem!_pos _ j ht,Array.getElem?_eq_getElem ht]
   rfl
  ·rw [if_neg (by omega),Array.getElem?_eq_none (by omega)]
   rfl
theorem sort1_grown {W:World} {g n:Nat} {d:Array α} {os:Array Obj}:W.grownBy (sortWorld enc W g 0 n d os) (some g) where
 os:=rfl
 tape:=rfl
 output:=rfl
 size:=by
  show _≤(((Sort.mapBlock (Sort.ahead W n) g _).heap)++os).size
  simp [Sort.mapBlock,Sort.ahead]
 block i hi hne:=by
  show (((Sort.mapBlock (Sort.ahead W n) g _).heap)++os)[i]?=_
  rw [Array.getElem?_append_left (by simpa [Sort.mapBlock,Sort.ahead] using hi)]
  show ((Sort.ahead W n).heap.modify g _)[i]?=_
  rw [Array.getElem?_modify,if_neg (fun e=>hne (by rw [e]))]
  rfl
theorem holds1_row {W:World} {base g:Nat} {t:TypeId} {m cap:Nat} {d:Array α} (h:W.ownsRow base t 1 (.slice (some ⟨g,0,none⟩) m cap) d.size (d.toList.map enc)):Sort.Holds enc W g 0 d∧g<W.heap.size:=by
 obtain ⟨hl,⟨e,_⟩ | ⟨g',cap',cur,e,hbg,hg,hn,hmx,hz,hx⟩⟩:=h
 ·cases e
 ·cases e
  refine ⟨fun j hj=>?_,(Array.getElem?_eq_some_iff.1 hg).1⟩
  have hc:cur[j]?=some (enc d[j]):=by
   have h1:=congrArg (fun l=>l[j]?) hx
   simp only [List.getElem?_take,Array.getElem?_toList] at h1
   rw [if_pos (by omega)] at h1
   rw [h1,List.getElem?_map,Array.getElem?_toList,Array.getElem?_eq_getElem hj]
   rfl
  constructor
  ·simp only [World.cell?,hg,Nat.zero_add]
   rw [getElem!_pos d j hj]
   exact hc
  ·simp only [World.frozen?,hg]
   rfl
end
theorem Tryz.sortSets1:Go.Proofs.SlLaysF.n6 Tryz.prog Tryz.sortSets_ren:={ Tryz.sortSets with
 a24:=Tryz.isAgg28
 z24:=Tryz.sizeOf28 }
def cfSt (O:List (List Ft)) (i j:Fin O.length):Int:=lexC O[i] O[j]
theorem ltSt {O:List (List Ft)} {many:Nat} (hm:∀ F∈O,F.length=many) (i j:Fin O.length):ltOf (cfSt O) i j=true↔lexLt O[i] O[j]:=by
 unfold ltOf cfSt
 rw [decide_eq_true_iff]
 exact lexC_lt ((hm _ (List.getElem_mem i.2)).trans (hm _ (List.getElem_mem j.2)).symm)
theorem swoSt {O:List (List Ft)} {many:Nat} (hm:∀ F∈O,F.length=many):Sort.SWO (ltOf (cfSt O)) where
 irrefl x:=by rw [← Bool.not_eq_true,ltSt hm];exact lex_irr _
 trans x y z h1 h2:=by rw [ltSt hm] at *;exact lex_trans h1 h2
 ntrans x y z h1 h2:=by
  rw [← Bool.not_eq_true,ltSt hm] at *
  intro h
  rcases lex_total ((hm _ (List.getElem_mem x.2)).trans (hm _ (List.getElem_mem y.2)).symm) with q | q | q
  ·exact h1 q
  ·exact h2 (by
    show lexLt O[y] O[z]
    rw [← show O[x]=O[y] from q]
    exact h)
  ·exact h2 (lex_trans q h)
theorem map_fins {O:List (List Ft)} (g:Nat→Value):((List.finRange O.length).map fun i:Fin O.length=>g i.1)=(List.range O.length).map g:=by
 apply List.ext_getElem
 ·simp
 ·intro i h1 h2
  simp
theorem sortSt_any (O:List (List Ft)) (many:Nat) (hm:∀ F∈O,F.length=many) (hmn:many≤1000) (hn:O.length≤1000000000000) (g:Nat→Value) (X base:Nat) (v:Value) (w:World) (hr:w.ownsRow base 28 1 v O.length ((List.range O.length).map g)) (hs:∀ i (hi:i<O.length),w.ownsRow X 74 3 (g i) O[i].length (ftCs O[i])) (hone:∀ i,i<O.length→(g i).oneCell'=true) :
  Calls Tryz.prog 72 #[v,.func (.func 73) #[] #[]] w fun e w'=>e = .returned (.tuple #[])∧∃ p:List (Fin O.length),p.Perm (List.finRange O.length)∧(p.Pairwise fun i j=>¬ lexLt O[j] O[i])∧w'.ownsRow base 28 1 v p.length (p.map fun i:Fin O.length=>g i.1)∧w.grownBy w' v.ownBlock:=by
 rcases hr.2 with ⟨hv,h0⟩ | ⟨b,cap,cur,hv,hbg,hg,hrest⟩
 ·have hl0:O=[]:=List.length_eq_zero_iff.1 h0
  subst hl0
  have hcon:=AnyF.slices_SortFunc_none Tryz.sortSets none 0 (.func (.func 73) #[] #[]) w
  rw [← hv] at hcon
  change Calls Tryz.prog 72 _ _ _ at hcon
  refine hcon.mono ?_
  rintro e w' ⟨rfl,rfl⟩
  exact ⟨rfl,[],List.Perm.refl _,List.Pairwise.nil,hr,World.grownBy.refl _ _⟩
 ·by_cases hpos:O.length=0
  ·have hl0:O=[]:=List.length_eq_zero_iff.1 hpos
   subst hl0
   have hcon:=AnyF.slices_SortFunc_none Tryz.sortSets (some ⟨b,0,none⟩) cap (.func (.func 73) #[] #[]) w
   have hv':v = .slice (some ⟨b,0,none⟩) 0 cap:=hv
   rw [← hv'] at hcon
   change Calls Tryz.prog 72 _ _ _ at hcon
   refine hcon.mono ?_
   rintro e w' ⟨rfl,rfl⟩
   exact ⟨rfl,[],List.Perm.refl _,List.Pairwise.nil,hr,World.grownBy.refl _ _⟩
  ·haveI:Inhabited (Fin O.length):=⟨⟨0,by omega⟩⟩
   obtain ⟨d,hd⟩:∃ d:Array (Fin O.length),d.toList=List.finRange O.length:=⟨(List.finRange O.length).toArray,rfl⟩
   have hsz:d.size=O.length:=by rw [← Array.length_toList,hd,List.length_finRange]
   have eg:∀ args w,(callFunc 73 args).run Tryz.prog w = .ok (.enter 73 args) w:=enters_of Tryz.func73 (by kernel_rfl) rfl
   have h':w.ownsRow base 28 1 (.slice (some ⟨b,0,none⟩) O.length cap) d.size (d.toList.map fun i:Fin O.length=>g i.1):=by rw [hd,hsz,map_fins,← hv];exact hr
   have hH:=holds1_row h'
   have hcon:=Any.slices_SortFunc Tryz.sortSets1 (fun i:Fin O.length=>g i.1) (fun i=>hone i i.2) (cfSt O) (swoSt hm) 73 #[] b 0 cap d w eg (fun m os dk _ x y=>by
    have hgr:w.grownBy (sortWorld (fun i:Fin O.length=>g i.1) w b 0 m dk os) (some b):=sort1_grown
    have hk:∀ i:Fin O.length,ARd (sortWorld (fun i:Fin O.length=>g i.1) w b 0 m dk os) (g i) 3 (O[i].map ftC):=fun i=>ARd.of_fts ((hs i i.2).kept hgr (by
     have:=row_apart (hs i i.2) hr (by decide)
     rw [hv] at this
     exact this))
    have hlx:∀ i:Fin O.length,O[i].length≤1000000:=fun i=>by have:=hm _ (List.getElem_mem i.2);show (O[i.1]'i.2).length≤_;omega
    exact sets2_any O[x] O[y] (g x) (g y) _ (hlx x) (hlx y) (hk x) (hk y)) hH.1 hH.2 (by omega)
   rw [hsz,← hv] at hcon
   change Calls Tryz.prog 72 _ _ _ at hcon
   refine hcon.mono ?_
   rintro e w' ⟨rfl,d',n,os,hp,hso,rfl⟩
   obtain ⟨hsz2,_,hperm⟩:=hp
   have ex:∀ (a:Array (Fin O.length)) n,n=a.size→a.extract 0 n=a:=fun a n h=>by rw [h];exact Array.extract_size
   rw [ex d' _ (by omega),ex d _ (by omega)] at hperm
   refine ⟨rfl,d'.toList,?_,?_,?_,?_⟩
   ·rw [← hd];exact hperm
   ·rw [List.pairwise_iff_getElem]
    intro i j hi hj hij
    have hj':j<d'.size:=by simpa using hj
    have hi':i<d'.size:=by simpa using hi
    have:=hso i j (Nat.zero_le _) hij (by omega)
    rw [← Bool.not_eq_true,ltSt hm,getElem!_pos d' i hi',getElem!_pos d' j hj'] at this
    exact this
   ·have:=sort1_row (n:=n) (os:=os) hsz2 h'
    have e2:d'.toList.length=d'.size:=Array.length_toList
    rw [hv,e2]
    exact this
   ·rw [hv];exact sort1_grown
end Go.Proofs.YteflhbfgpknabaaGreatDoor
namespace Go.Proofs.YteflhbfgpknabaaGreatDoor
open Go.Lib (hid)
open Go.RowKit Go.Shelf
def zeroT:Array Value:=#[.int .i64 0,.int .i64 0,.int .i64 0,.int .i64 0,.int .i64 0,.int .i64 0,.int .i64 0,.int .i64 0,.int .i64 0]
theorem tri_cells (l:List Ft):(zeroT.toList.take 0++(ftCs l).take 9++zeroT.toList.drop (0+((ftCs l).take 9).length)).toArray=(triC (triOf l)).toArray:=by
 congr 1
 rcases l with _ | ⟨⟨a1,a2,a3⟩,_ | ⟨⟨b1,b2,b3⟩,_ | ⟨⟨c1,c2,c3⟩,l⟩⟩⟩
 ·rfl
 ·rfl
 ·rfl
 ·simp [ftCs,ftC,triOf,triC,zeroT]
theorem key_copied (l:List Ft) (base:Nat) (v:Value) (W:World) (ty:TypeId) (_hb:base≤W.heap.size) (h:W.ownsRow base 74 3 v l.length (ftCs l)) :
  ∃ v' W',(Builtin.copy_ #[28,28] ty #[.slice (some ⟨W.heap.size,0,none⟩) 3 3,v]).run Tryz.prog (W.alloc (.cells zeroT 113)) = .ok v' W'∧Blk W' W.heap.size 113 (triC (triOf l)).toArray∧Below W.heap.size W W':=by
 have hb1:Below W.heap.size W (W.alloc (.cells zeroT 113)):=(Below.refl _ W).alloc (Nat.le_refl _) _
 have hk:=Blk.new W 113 zeroT
 have hlen:((ftCs l).take 9).length=Nat.min l.length 3 * 3:=by
  rw [List.length_take,ftCs_len]
  have:Nat.min l.length 3=min l.length 3:=rfl
  omega
 have hput:=blk_put ((ftCs l).take 9) 0 _ _ hk (by
  show 0+((ftCs l).take 9).length≤9
  rw [List.length_take];omega)
 rw [tri_cells] at hput
 have hbl:Below W.heap.size W ((W.alloc (.cells zeroT 113)).setCells W.heap.size 0 ((ftCs l).take 9)):=hb1.grown (grown_cells _ _ _ _) hb1.size (fun k e=>by cases e;exact Nat.le_refl _)
 have hu:=Tryz.underlying28
 rcases h.2 with ⟨hv,h0⟩ | ⟨g,cap,cur,hv,hbg,hg,hcap,hmx,hsz,hxs⟩
 ·subst hv
  have hl0:l=[]:=List.length_eq_zero_iff.1 h0
  subst hl0
  obtain ⟨i0,hi0,hz0,hz1,hz2⟩:=info_parts ftf_info
  refine ⟨goInt 0,W.alloc (.cells zeroT 113),?_,hput,hb1⟩
  simp [Builtin.copy_,run_underlying hu,Builtin.lenOf,Builtin.firstCells,sizeOf,typeInfo,hi0,storeCells,go_sem,Result.andThen]
 ·subst hv
  refine ⟨_,_,run_copyK _ _ _ ty 74 3 W.heap.size 0 3 3 ⟨g,0,none⟩ l.length cap ((ftCs l).take 9) hu (by kernel_rfl) hlen (fun j v hj=>?_) (fun j hj=>?_) (fun j hj=>?_) (fun v hv=>ftCs_one l v (List.mem_of_mem_take hv)),hput,hbl⟩
  ·rw [Addr.add_lit]
   have hlt:=(List.getElem?_eq_some_iff.1 hj).1
   rw [hlen] at hlt
   rw [List.getElem?_take] at hj
   split at hj
   ·have hj2:j<l.length * 3:=by
     have:Nat.min l.length 3=min l.length 3:=rfl
     omega
    rw [← hxs,List.getElem?_take,if_pos (by omega),Array.getElem?_toList] at hj
    have:=(Blk.alloc (show Blk W g _ cur from hg) (.cells zeroT 113)).cell (0+j)
    rw [this,Nat.zero_add]
    exact hj
   ·cases hj
  ·rw [hk.cell (0+j),Nat.zero_add]
   rw [hlen] at hj
   have:Nat.min l.length 3=min l.length 3:=rfl
   have hj9:j<zeroT.size:=by show j<9;omega
   rw [Array.getElem?_eq_getElem hj9]
   rfl
  ·exact hk.frozen (0+j)
theorem seen_iff {S:Sp} {V:List (List Ft)} {many:Nat} (hV:∀ g∈V,FtsOk S g∧g.length≤many) (hm:many≤3) {f:List Ft} (hf:FtsOk S f) (hl:f.length≤3):triOf f∈V.map triOf↔f∈V:=by
 constructor
 ·intro h
  obtain ⟨g,hg,e⟩:=List.mem_map.1 h
  obtain ⟨h1,h2⟩:=hV g hg
  rw [triOf_inj hl (by omega) (fun x hx=>(ftOk_kind (hf.ok x hx)).1) (fun x hx=>(ftOk_kind (h1.ok x hx)).1) e.symm]
  exact hg
 ·exact fun h=>List.mem_map.2 ⟨f,h,rfl⟩
theorem sts_len {l m:List (List Ft)} (h:l.Nodup) (hs:∀ x∈l,x∈m):l.length≤m.length:=by
 induction l generalizing m with
 | nil=>exact Nat.zero_le _
 | cons a l ih =>
  rw [List.nodup_cons] at h
  have ha:=hs a (by simp)
  have h2:=ih h.2 (m:=m.erase a) (fun x hx=>(List.mem_erase_of_ne (fun e=>h.1 (by rw [← e];exact hx))).2 (hs x (by simp [hx])))
  rw [List.length_erase_of_mem ha] at h2
  have:0<m.length:=List.length_pos_of_mem ha
  rw [List.length_cons]
  omega
theorem subs_len:∀ (l:List Ft) (k:Nat),(subs l k).length≤(l.length+1) ^ k
 | [],0=>by simp [subs]
 | _ :: _,0=>by simp [subs]
 | [],_+1=>by simp [subs]
 | x :: l,k+1=>by
  have h1:=subs_len l k
  have h2:=subs_len l (k+1)
  rw [subs,List.length_append,List.length_map,List.length_cons]
  have h3:(l.length+1) ^ k≤(l.length+1+1) ^ k:=Nat.pow_le_pow_left (by omega) k
  have h4:(l.length+1) ^ (k+1)=(l.length+1) * (l.length+1) ^ k:=by rw [Nat.pow_succ,Nat.mul_comm]
  have h5:(l.length+1+1) ^ (k+1)=(l.length+1) * (l.length+1+1) ^ k+(l.length+1+1) ^ k:=by rw [Nat.pow_succ,Nat.mul_comm,Nat.succ_mul]
  have h6:(l.length+1) * (l.length+1) ^ k≤(l.length+1) * (l.length+1+1) ^ k:=Nat.mul_le_mul_left _ h3
  omega
theorem allFt_len {S:Sp} (hc:(checkP S).2=0):(allFt S).length≤7999:=by
 have h1:=allFrom_len (spGood hc).r 0
 have h2:=sp_lens hc
 unfold allFt pipesFt numsFt
 simp only [List.length_append,List.length_map,List.length_range]
 omega
theorem fts_sub {S:Sp} {F:List Ft} (h:FtsOk S F):F.Sublist (allFt S):=by
 have e:F=(allFt S).filter fun x=>decide (x∈F):=fts_one h.asc ((asc_allFt S).filter _) fun x=>by
  rw [List.mem_filter,decide_eq_true_iff,mem_allFt]
  exact ⟨fun q=>⟨h.ok x q,q⟩,fun q=>q.2⟩
 rw [e]
 exact List.filter_sublist
theorem found_len {S:Sp} (hc:(checkP S).2=0) {O:List (List Ft)} (hn:O.Nodup) {k:Nat} (hk:k≤3) (h:∀ F∈O,FtsOk S F∧F.length=k):O.length≤512000000000:=by
 have h1:=sts_len hn (m:=subs (allFt S) k) fun F hF=>mem_subs.2 ⟨fts_sub (h F hF).1,(h F hF).2⟩
 have h2:=subs_len (allFt S) k
 have h3:((allFt S).length+1) ^ k≤8000 ^ k:=Nat.pow_le_pow_left (by have:=allFt_len hc;omega) k
 have h4:8000 ^ k≤8000 ^ 3:=Nat.pow_le_pow_right (by decide) hk
 have h5:8000 ^ 3=512000000000:=by decide
 omega
theorem DfI.len {S:Sp} {B:(Th→Int)→Pp→Bool} {T:List Tr} {many:Nat} {St V O:List (List Ft)} (hc:(checkP S).2=0) (hm:many≤3) (h:DfI S B T many St V O):O.length≤512000000000 :=
 found_len hc h.on hm fun F hF=>⟨(h.v F ((h.o F).1 hF).1).1,((h.o F).1 hF).2.1⟩
theorem strictF {m:List Ft} (hs:m.Pairwise fun a b=>¬ fLt b a) (hn:m.Nodup):m.Pairwise fLt:=by
 refine (List.pairwise_and_iff.2 ⟨hs,hn⟩).imp fun {a b} h=>?_
 rcases fLt_total a b with q | q | q
 ·exact q
 ·exact absurd q h.2
 ·exact absurd q h.1
section
variable {w W W' : World} {v1 v2 v3 v4 tv : Value} {many : Nat} {V O : List (List Ft)} {g : Nat → Value} {vo : Value}
theorem DsW.pushed (h:DsW w v1 v2 v3 v4 tv many V O g vo W) {o:Obj} {f:List Ft} {fv vo':Value} (hf:W.ownsRow (w.heap.size+7) 74 3 fv f.length (ftCs f)) (hg:(W.alloc o).grownBy W' vo.ownBlock) (ho:W'.ownsRow (w.heap.size+7) 28 1 vo' (O.length+1) ((List.range O.length).map g++[fv])) :
  DsW w v1 v2 v3 v4 tv many V (O++[f]) (fun i=>if i=O.length then fv else g i) vo' (W'.setCell ⟨w.heap.size+5,0,none⟩ vo')∧KpF (w.heap.size+7) W (W'.setCell ⟨w.heap.size+5,0,none⟩ vo'):=by
 have hba:Below W.heap.size W (W.alloc o):=(Below.refl _ W).alloc (Nat.le_refl _) _
 have h1:=h.later hba
 have hk1:KpF (w.heap.size+7) W W':=(KpF.below hba).trans (KpF.apart h1.row (by decide) hg)
 have hou:Blk W' (w.heap.size+5) 43 #[vo]:=h.ou.rowed h.row (by decide) hg
 have hs:=set_grown W' (w.heap.size+5) 0 vo'
 have hk:KpF (w.heap.size+7) W (W'.setCell ⟨w.heap.size+5,0,none⟩ vo'):=hk1.trans (KpF.far hs (fun r e=>by cases e;omega))
 have hb':Below w.heap.size w W':=h1.b.grown hg h1.b.size (fun k e=>by have:=row_ge h1.row e;omega)
 refine ⟨⟨hb'.setCell (Nat.le_add_right _ _) _,(h.sp.rowed h.row (by decide) hg).grown hs (fun e=>by have:=Option.some.inj e;omega),(h.tl.rowed h.row (by decide) hg).grown hs (fun e=>by have:=Option.some.inj e;omega),(h.my.rowed h.row (by decide) hg).grown hs (fun e=>by have:=Option.some.inj e;omega),(h.sn.rowed h.row (by decide) hg).grown hs (fun e=>by have:=Option.some.inj e;omega),hou.set 0 vo',(h.ad.rowed h.row (by decide) hg).grown hs (fun e=>by have:=Option.some.inj e;omega),(h1.mp.kept hg (fun e=>by have:=row_ge h1.row e.symm;omega)).kept hs (fun e=>by have:=Option.some.inj e;omega),?_,fun i hi=>?_⟩,hk⟩
 ·have e:(List.range (O++[f]).length).map (fun i=>if i=O.length then fv else g i)=(List.range O.length).map g++[fv]:=by
   rw [List.length_append,List.length_singleton,List.range_succ,List.map_append,List.map_singleton,if_pos rfl]
   congr 1
   refine List.map_congr_left fun i hi=>?_
   rw [if_neg (by have:=List.mem_range.1 hi;omega)]
  rw [e,List.length_append,List.length_singleton]
  exact owns_setI ho hou (by decide)
 ·rw [List.length_append,List.length_singleton] at hi
  by_cases e:i=O.length
  ·subst e
   have e2:(O++[f])[O.length]=f:=by simp
   simp only [if_pos]
   rw [e2]
   exact hk.row _ _ _ hf
  ·simp only [if_neg e]
   rw [List.getElem_append_left (by omega)]
   exact hk.row _ _ _ (h.st i (by omega))
end
theorem fts_info:(Tryz.prog.info? 28).map (fun i=>(i.zero,i.size,i.bytes))=some (some (.slice none 0 0),1,24):=by kernel_rfl
end Go.Proofs.YteflhbfgpknabaaGreatDoor
