/-
  A part of the proof: Seen.
-/
import Derived.Test.YteflhbfgpknabaaGreatDoorL01
import Derived.Maps.Views
import Derived.Maps.OwnOps
import Derived.WideKeyArgs2
import Derived.StringKeys
namespace Go.Proofs.YteflhbfgpknabaaGreatDoor
open Go.RowKit Go.Maps Go.WideShapes Go.WideMaps
def Key (k n:List UInt8):List UInt8:=k++32 :: n
theorem cut_inj:∀ {a c b d:List UInt8},(32:UInt8) ∉ a→(32:UInt8) ∉ c→a++32 :: b=c++32 :: d→a=c∧b=d
 | [],[],b,d,_,_,h=>⟨rfl,(List.cons.inj h).2⟩
 | [],y :: c,b,d,_,h2,h=>absurd (List.cons.inj h).1 (fun e=>h2 (by rw [e];simp))
 | x :: a,[],b,d,h1,_,h=>absurd (List.cons.inj h).1 (fun e=>h1 (by rw [← e];simp))
 | x :: a,y :: c,b,d,h1,h2,h=>by
  simp only [List.mem_cons,not_or] at h1 h2
  obtain ⟨e1,e2⟩:=cut_inj h1.2 h2.2 (List.cons.inj h).2
  exact ⟨by rw [(List.cons.inj h).1,e1],e2⟩
theorem key_inj {k1 k2 n1 n2:List UInt8} (h1:(32:UInt8) ∉ n1) (h2:(32:UInt8) ∉ n2) (h:Key k1 n1=Key k2 n2):k1=k2∧n1=n2:=by
 have e:=congrArg List.reverse h
 unfold Key at e
 simp only [List.reverse_append,List.reverse_cons,List.append_assoc,List.singleton_append] at e
 obtain ⟨e1,e2⟩:=cut_inj (by simpa using h1) (by simpa using h2) e
 exact ⟨List.reverse_inj.1 e2,List.reverse_inj.1 e1⟩
theorem name_no32 {l:List UInt8} (h:nameB l=true):(32:UInt8) ∉ l:=by
 intro hm
 unfold nameB at h
 simp only [Bool.and_eq_true] at h
 have:=List.all_eq_true.1 h.2 32 hm
 revert this
 decide
def SeenD (D:DataW Unit) (ks:List (List UInt8 × List UInt8)):Prop:=Maps.IsMap D∧(∀ p∈ks,(32:UInt8) ∉ p.2) ∧
 ∀ k n,(32:UInt8) ∉ n→D.atKey (.string (Key k n)) (.lit (.bool false)) = .lit (.bool (decide ((k,n)∈ks)))
theorem seen_start:SeenD (.map []) []:=by
 refine ⟨Maps.isMap_empty,fun p h=>absurd h List.not_mem_nil,fun k n _=>?_⟩
 simp
 rfl
theorem seen_put {D:DataW Unit} {ks:List (List UInt8 × List UInt8)} (h:SeenD D ks) (k n:List UInt8) (hn:(32:UInt8) ∉ n):SeenD (D.put (.string (Key k n)) (.lit (.bool true))) ((k,n) :: ks):=by
 obtain ⟨h1,h2,h3⟩:=h
 refine ⟨h1.put _ _,fun p hp=>?_,fun k' n' hn'=>?_⟩
 ·rcases List.mem_cons.1 hp with rfl | hp
  ·exact hn
  ·exact h2 p hp
 ·by_cases e:(k',n')=(k,n)
  ·cases e
   rw [Maps.atKey_put_same h1 (by trivial)]
   simp
  ·rw [Maps.atKey_put_other (by
    intro e2
    have:=key_inj hn' hn (Lit.string.inj e2)
    exact e (by rw [this.1,this.2])),h3 k' n' hn']
   congr 3
   simp [e]
def Seen (P:Program) (ts tb:TypeId) (w:World) (b n:Nat) (ks:List (List UInt8 × List UInt8)):Prop:=∃ D:DataW Unit,w.ownsMap P ts (plainElem P tb) b n D∧SeenD D ks
theorem Seen.made (P:Program) (ts tb:TypeId) (w:World):Seen P ts tb (w.alloc (.map #[] 0)) w.heap.size 0 []:=⟨_,World.ownsMap_made w P ts _,seen_start⟩
theorem Seen.kept {P:Program} {ts tb:TypeId} {w w':World} {b n:Nat} {ks:List (List UInt8 × List UInt8)} {row:Option Nat} (h:Seen P ts tb w b n ks) (hg:w.grownBy w' row) (hne:some b≠row):Seen P ts tb w' b n ks:=by
 obtain ⟨D,h1,h2⟩:=h
 exact ⟨D,h1.kept hg hne,h2⟩
theorem Seen.below {P:Program} {ts tb:TypeId} {w w':World} {b n:Nat} {ks:List (List UInt8 × List UInt8)} (h:Seen P ts tb w b n ks) (hb:Below w.heap.size w w'):Seen P ts tb w' b n ks :=
 h.kept (row:=none) ⟨hb.os,hb.tape,hb.output,hb.size,fun i hi _=>hb.block i hi⟩ (by simp)
theorem Seen.lt {P:Program} {ts tb:TypeId} {w:World} {b n:Nat} {ks:List (List UInt8 × List UInt8)} (h:Seen P ts tb w b n ks):b<w.heap.size:=by
 obtain ⟨D,h1,_⟩:=h
 exact h1.lt
theorem bool_inv {P:Program} {e:TypeId} (he:P.underlying e=some .bool) {v:Value} {z:DataW Unit × List MemPlace} (h:plainElem P e v=some z):∃ a,v = .bool a∧z=(.lit (.bool a),[]):=by
 unfold plainElem at h
 rw [he] at h
 cases v <;> simp at h
 exact ⟨_,rfl,h.symm⟩
theorem wpList_lookup_seen {P:Program} (w:World) {ops:Array Oper} {rest:List Oper} {o:Oper} {a:Act} {Q:Exit→Act→World→Prop}
  (hg:o.guard=none) (m x:Operand) (t:TypeId) (hop:o.op=Op.lookup t m x false)
  (ts tb:TypeId) (hts:P.underlying ts=some .string) (htb:P.underlying tb=some .bool) (ht:P.underlying t=some (.map ts tb)) (hz:(zeroValue tb).run P w = .ok (.bool false) w) (b n:Nat) (ks:List (List UInt8 × List UInt8))
  (hm:a.eval m = .map (some b)) (hown:Seen P ts tb w b n ks) (s:ByteArray) (hx:a.eval x = .string s) (k nm:List UInt8) (hs:L s=Key k nm) (hz2:s.size≤maxLen) (hn:(32:UInt8) ∉ nm)
  (hK:wpList P ops Q rest (a.put o.dst (.bool (decide ((k,nm)∈ks)))) w) :
  wpList P ops Q (o :: rest) a w:=by
 refine wpList_plain hg fun K' hK'=>?_
 obtain ⟨D,h1,_,_,h3⟩:=hown
 obtain ⟨v,ps,hrun,hv⟩:=h1.lookup (string_keyed hts) ht hz (plainElem_bool htb false) (key:=.string s) (keyOf_string_mk hts hz2)
 obtain ⟨c,rfl,hc⟩:=bool_inv htb hv
 have he:=h3 k nm hn
 rw [← hs] at he
 have hc1:=congrArg Prod.fst hc
 simp only at hc1
 have hcc:c=decide ((k,nm)∈ks):=by
  have:=hc1.symm.trans he
  simpa using this
 rw [hcc] at hrun
 unfold Oper.wp
 simp [execOp,hop,hm,hx,hrun,Result.andThen]
 exact hK' _ _ hK
theorem wpList_update_seen {P:Program} (w:World) {ops:Array Oper} {rest:List Oper} {o:Oper} {a:Act} {Q:Exit→Act→World→Prop}
  (hg:o.guard=none) (m x v:Operand) (t:TypeId) (hop:o.op=Op.mapUpdate t m x v)
  (ts tb:TypeId) (hts:P.underlying ts=some .string) (htb:P.underlying tb=some .bool) (ht:P.underlying t=some (.map ts tb)) (b n:Nat) (ks:List (List UInt8 × List UInt8))
  (hm:a.eval m = .map (some b)) (hown:Seen P ts tb w b n ks) (hlt:n<maxLen) (s:ByteArray) (hx:a.eval x = .string s) (hv:a.eval v = .bool true) (k nm:List UInt8) (hs:L s=Key k nm) (hz2:s.size≤maxLen) (hn:(32:UInt8) ∉ nm)
  (hK:∀ w',Seen P ts tb w' b (n+1) ((k,nm) :: ks)→w.grownBy w' (some b)→wpList P ops Q rest (a.put o.dst undef) w') :
  wpList P ops Q (o :: rest) a w:=by
 obtain ⟨D,h1,h2⟩:=hown
 refine wpList_mapUpdate_own w hg m x v t hop ts tb (string_keyed hts) ht (plainElem P tb) b n D hm h1 hlt (.string s) (.bool true) (.string (L s)) hx hv (keyOf_string_mk hts hz2) (.lit (.bool true)) [] (plainElem_bool htb true) ?_
 intro w' h3 h4
 exact hK w' ⟨_,h3,by rw [hs];exact seen_put h2 k nm hn⟩ h4
end Go.Proofs.YteflhbfgpknabaaGreatDoor
