/-
  A part of the proof: AJ1,AJ5,AJ6,AK1.
-/
import Derived.Test.YteflhbfgpknabaaGreatDoorL16
import Derived.Test.YteflhbfgpknabaaGreatDoorL02
import Derived.Test.YteflhbfgpknabaaGreatDoorL07
namespace Go.Proofs.YteflhbfgpknabaaGreatDoor
open Go.RowKit
def hitG (S:Sp) (f:Th→Int) (G:Gr) (p:Pp) (j:Nat) (y:Int):Bool:=match (onL f 2 S.ss.length)[j]? with
 | none=>false
 | some i=>match S.ss[i.toNat]? with
  | none=>false
  | some x=>(G (x.div,y)).isSome&&playsB x y p&&keyIn S x.div y
theorem hitG_at {S:Sp} {f:Th→Int} {G:Gr} {p:Pp} {j i:Nat} {y:Int} (hj:j<(onL f 2 S.ss.length).length) (he:(onL f 2 S.ss.length)[j]=(i:Int)) (hi:i<S.ss.length):hitG S f G p j y=((G (S.ss[i].div,y)).isSome&&playsB S.ss[i] y p&&keyIn S S.ss[i].div y):=by
 unfold hitG
 rw [List.getElem?_eq_getElem hj,he]
 simp only [Int.toNat_natCast]
 rw [List.getElem?_eq_getElem hi]
structure SdK (S:Sp) (f:Th→Int) (G:Gr) (p:Pp) (k n:Nat):Prop where
 pos:0<n↔∃ j,j<k∧∃ y,hitG S f G p j y=true
 le:n≤100 * k
structure SdY (S:Sp) (f:Th→Int) (G:Gr) (p:Pp) (k:Nat) (lo key:Int) (n:Nat):Prop where
 pos:0<n↔(∃ j,j<k∧∃ y,hitG S f G p j y=true)∨∃ y,y<key∧hitG S f G p k y=true
 le:(n:Int)≤100 * k+(key-lo)
 ge:lo≤key
theorem SdK.start (S:Sp) (f:Th→Int) (G:Gr) (p:Pp):SdK S f G p 0 0 :=
 ⟨⟨fun h=>absurd h (Nat.lt_irrefl 0),fun ⟨j,h,_⟩=>absurd h (Nat.not_lt_zero j)⟩,Nat.zero_le _⟩
theorem SdK.take {S:Sp} {f:Th→Int} {G:Gr} {p:Pp} {k n:Nat} {lo:Int} (h:SdK S f G p k n) (hl:∀ y,y<lo→hitG S f G p k y=false):SdY S f G p k lo lo n :=
 ⟨h.pos.trans ⟨.inl,fun q=>q.elim id (fun ⟨y,h1,h2⟩=>by rw [hl y h1] at h2;cases h2)⟩,by have:=h.le;omega,Int.le_refl _⟩
theorem SdY.skip {S:Sp} {f:Th→Int} {G:Gr} {p:Pp} {k n:Nat} {lo key:Int} (h:SdY S f G p k lo key n) (hn:hitG S f G p k key=false):SdY S f G p k lo (key+1) n :=
 ⟨h.pos.trans (or_congr Iff.rfl ⟨fun ⟨y,h1,h2⟩=>⟨y,by omega,h2⟩,fun ⟨y,h1,h2⟩=>⟨y,by
  by_cases e:y=key
  ·rw [e,hn] at h2;cases h2
  ·omega,h2⟩⟩),by have:=h.le;omega,by have:=h.ge;omega⟩
theorem SdY.hit {S:Sp} {f:Th→Int} {G:Gr} {p:Pp} {k n:Nat} {lo key:Int} (h:SdY S f G p k lo key n) (hn:hitG S f G p k key=true):SdY S f G p k lo (key+1) (n+1) :=
 ⟨⟨fun _ => .inr ⟨key,by omega,hn⟩,fun _=>Nat.succ_pos _⟩,by have:=h.le;omega,by have:=h.ge;omega⟩
theorem SdY.end {S:Sp} {f:Th→Int} {G:Gr} {p:Pp} {k n:Nat} {lo key:Int} (h:SdY S f G p k lo key n) (hk:key≤lo+61) (hl:∀ y,key≤y→hitG S f G p k y=false):SdK S f G p (k+1) n :=
 ⟨h.pos.trans ⟨fun q=>q.elim (fun ⟨j,h1,h2⟩=>⟨j,by omega,h2⟩) (fun ⟨y,_,h2⟩=>⟨k,by omega,y,h2⟩),fun ⟨j,h1,y,h2⟩=>by
  by_cases e:j=k
  ·subst e
   refine .inr ⟨y,?_,h2⟩
   by_cases z:y<key
   ·exact z
   ·rw [hl y (by omega)] at h2;cases h2
  ·exact .inl ⟨j,by omega,y,h2⟩⟩,by have:=h.le;have:=h.ge;omega⟩
theorem SdK.all {S:Sp} {f:Th→Int} {G:Gr} {p:Pp} {n:Nat} (g:SpGood S) (h:SdK S f G p (onL f 2 S.ss.length).length n) (hG:∀ q,G q≠none↔Acts S f q):0<n↔Snd S f p:=by
 rw [h.pos]
 constructor
 ·rintro ⟨j,hj,y,hy⟩
  have hm:=mem_onL.1 (List.getElem_mem hj)
  obtain ⟨x,hx⟩:∃ x,(onL f 2 S.ss.length)[j]=x:=⟨_,rfl⟩
  rw [hx] at hm
  obtain ⟨h0,h1,h2⟩:=hm
  obtain ⟨i,rfl⟩:=Int.eq_ofNat_of_zero_le h0
  have hi:i<S.ss.length:=by omega
  rw [hitG_at hj hx hi,Bool.and_eq_true,Bool.and_eq_true] at hy
  have hac:Acts S f (S.ss[i].div,y):=(hG _).1 (by have:=hy.1.1;intro e;rw [e] at this;cases this)
  have hdv:=g.s _ (List.getElem_mem hi)
  refine ⟨i,hi,h2,y,hac,?_,hy.1.2⟩
  unfold keyOk
  simp only [hy.2,Bool.and_true,Bool.and_eq_true,decide_eq_true_iff]
  exact ⟨hdv.1,hdv.2.1⟩
 ·rintro ⟨i,hi,hon,y,hac,hok,hpl⟩
  obtain ⟨j,hj,hx⟩:=List.mem_iff_getElem.1 (mem_onL.2 ⟨Int.natCast_nonneg i,by omega,hon⟩:(i:Int)∈onL f 2 S.ss.length)
  refine ⟨j,hj,y,?_⟩
  rw [hitG_at hj hx hi]
  have h1:(G (S.ss[i].div,y)).isSome=true:=by
   have:=(hG _).2 hac
   cases e:G (S.ss[i].div,y) with
   | none=>exact absurd e this
   | some _=>rfl
  unfold keyOk at hok
  rw [Bool.and_eq_true,Bool.and_eq_true] at hok
  rw [h1,hpl,hok.1.2]
  rfl
theorem ARd.ppAt {w:World} {v:Value} {l:List Pp} (h:ARd w v 2 (l.map ppC)) (i:Nat) (hi:i<l.length):∃ b o c,v = .slice (some ⟨b,o,none⟩) l.length c∧b<w.heap.size∧w.cell? ⟨b,o+i * 2,none⟩=some (.int .i64 l[i].1)∧w.cell? ⟨b,o+i * 2+1,none⟩=some (.int .i64 l[i].2):=by
 obtain ⟨b,o,c,e,hlt,hc⟩:=h.at i (by simpa using hi)
 rw [List.getElem_map] at hc
 rw [List.length_map] at e
 exact ⟨b,o,c,e,hlt,hc 0 _ rfl,hc 1 _ rfl⟩
end Go.Proofs.YteflhbfgpknabaaGreatDoor
