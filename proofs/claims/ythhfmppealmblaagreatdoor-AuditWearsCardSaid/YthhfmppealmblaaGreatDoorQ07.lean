/-
  A part of the proof: A5, A6.
-/
import Derived.Test.YthhfmppealmblaaGreatDoorQ06
namespace Go.Proofs.YthhfmppealmblaaGreatDoor
def putT : List Int→Int→List Int
 | [],t => [t]
 | a :: r,t => if a < t then a :: putT r t else if a = t then a :: r else t :: a :: r
theorem mem_putT {t u : Int} : ∀ {l : List Int},u ∈ putT l t ↔ u = t ∨ u ∈ l
 | [] => by simp [putT]
 | a :: r => by
  rw [putT]
  split
  ·rw [List.mem_cons,mem_putT,List.mem_cons]
   exact ⟨fun h => by rcases h with h | h | h; exact .inr (.inl h); exact .inl h; exact .inr (.inr h),fun h => by rcases h with h | h | h; exact .inr (.inl h); exact .inl h; exact .inr (.inr h)⟩
  ·split
   ·rename_i e
    rw [List.mem_cons]
    exact ⟨fun h => .inr h,fun h => by rcases h with h | h; exact .inl (h.trans e.symm); exact h⟩
   ·rw [List.mem_cons,List.mem_cons]
theorem asc_putT {t : Int} : ∀ {l : List Int},l.Pairwise (· < ·)→(putT l t).Pairwise (· < ·)
 | [],_ => by simp [putT]
 | a :: r,h => by
  have h1:=List.pairwise_cons.1 h
  rw [putT]
  split
  ·rename_i hlt
   rw [List.pairwise_cons]
   refine ⟨fun x hx => ?_,asc_putT h1.2⟩
   rcases mem_putT.1 hx with rfl | hx
   ·exact hlt
   ·exact h1.1 x hx
  ·split
   ·exact h
   ·rw [List.pairwise_cons]
    refine ⟨fun x hx => ?_,h⟩
    rcases List.mem_cons.1 hx with rfl | hx
    ·omega
    ·have:=h1.1 x hx
     omega
theorem len_putT {t : Int} : ∀ {l : List Int},(putT l t).length ≤ l.length + 1
 | [] => by simp [putT]
 | a :: r => by
  rw [putT]
  split
  ·have:=len_putT (t:=t) (l:=r)
   simp only [List.length_cons]
   omega
  ·split
   ·simp
   ·simp
theorem putT_at {l : List Int} {t : Int} : ∀ {i : Nat},i ≤ l.length→(∀ j (hj : j < l.length),j < i→l[j] < t)→(∀ hi : i < l.length,¬ l[i] < t)→putT l t = if h : i < l.length then (if l[i] = t then l else l.take i ++ t :: l.drop i) else l ++ [t]:=by
 induction l with
 | nil =>
  intro i hi _ _
  rw [dif_neg (by simp)]
  rfl
 | cons a r ih =>
  intro i hi h1 h2
  cases i with
  | zero =>
   have h3:=h2 (by simp)
   simp only [List.getElem_cons_zero] at h3
   rw [putT,if_neg h3,dif_pos (by simp)]
   simp only [List.getElem_cons_zero]
   split
   ·rfl
   ·rfl
  | succ i =>
   have h3:=h1 0 (by simp) (by omega)
   simp only [List.getElem_cons_zero] at h3
   rw [putT,if_pos h3,ih (i:=i) (by simpa using hi) (fun j hj hji => by have:=h1 (j + 1) (by simpa using hj) (by omega); simpa using this) (fun hi2 => by have:=h2 (by simpa using hi2); simpa using this)]
   by_cases q : i < r.length
   ·rw [dif_pos q,dif_pos (by simpa using q)]
    simp only [List.getElem_cons_succ]
    split
    ·rfl
    ·rw [List.take_succ_cons,List.drop_succ_cons,List.cons_append]
   ·rw [dif_neg q,dif_neg (by simpa using q),List.cons_append]
def ticksL (ts : List Int) (l : List Ev) : List Int:=l.foldl (fun ts x => putT ts x.1) ts
theorem mem_ticksL {u : Int} : ∀ {l : List Ev} {ts : List Int},u ∈ ticksL ts l ↔ u ∈ ts ∨ ∃ x ∈ l,x.1 = u
 | [],ts => by simp [ticksL]
 | x :: l,ts => by
  show u ∈ ticksL (putT ts x.1) l ↔ _
  rw [mem_ticksL,mem_putT]
  constructor
  ·rintro ((h | h) | ⟨y,hy,e⟩)
   ·exact .inr ⟨x,by simp,h.symm⟩
   ·exact .inl h
   ·exact .inr ⟨y,List.mem_cons_of_mem _ hy,e⟩
  ·rintro (h | ⟨y,hy,e⟩)
   ·exact .inl (.inr h)
   ·rcases List.mem_cons.1 hy with rfl | hy
    ·exact .inl (.inl e.symm)
    ·exact .inr ⟨y,hy,e⟩
theorem asc_ticksL : ∀ {l : List Ev} {ts : List Int},ts.Pairwise (· < ·)→(ticksL ts l).Pairwise (· < ·)
 | [],_,h => h
 | x :: l,ts,h => asc_ticksL (l:=l) (ts:=putT ts x.1) (asc_putT h)
def clPut (ts : List Int) (c : Cl) : List Int:=if 0 ≤ c.2.2 then putT (putT ts c.2.1) c.2.2 else putT ts c.2.1
def ticksC (ts : List Int) (cls : List Cl) : List Int:=cls.foldl clPut ts
theorem mem_clPut {u : Int} {ts : List Int} {c : Cl} : u ∈ clPut ts c ↔ u ∈ ts ∨ u = c.2.1 ∨ 0 ≤ c.2.2∧u = c.2.2:=by
 unfold clPut
 by_cases q : 0 ≤ c.2.2
 ·rw [if_pos q,mem_putT,mem_putT]
  exact ⟨fun h => by rcases h with h | h | h; exact .inr (.inr ⟨q,h⟩); exact .inr (.inl h); exact .inl h,fun h => by rcases h with h | h | h; exact .inr (.inr h); exact .inr (.inl h); exact .inl h.2⟩
 ·rw [if_neg q,mem_putT]
  exact ⟨fun h => by rcases h with h | h; exact .inr (.inl h); exact .inl h,fun h => by rcases h with h | h | h; exact .inr h; exact .inl h; exact absurd h.1 q⟩
theorem mem_ticksC {u : Int} : ∀ {cls : List Cl} {ts : List Int},u ∈ ticksC ts cls ↔ u ∈ ts ∨ ∃ c ∈ cls,u = c.2.1 ∨ 0 ≤ c.2.2∧u = c.2.2
 | [],ts => by simp [ticksC]
 | c :: cls,ts => by
  show u ∈ ticksC (clPut ts c) cls ↔ _
  rw [mem_ticksC,mem_clPut]
  constructor
  ·rintro ((h | h) | ⟨y,hy,e⟩)
   ·exact .inl h
   ·exact .inr ⟨c,by simp,h⟩
   ·exact .inr ⟨y,List.mem_cons_of_mem _ hy,e⟩
  ·rintro (h | ⟨y,hy,e⟩)
   ·exact .inl (.inl h)
   ·rcases List.mem_cons.1 hy with rfl | hy
    ·exact .inl (.inr e)
    ·exact .inr ⟨y,hy,e⟩
theorem asc_clPut {ts : List Int} {c : Cl} (h : ts.Pairwise (· < ·)) : (clPut ts c).Pairwise (· < ·):=by
 unfold clPut
 split
 ·exact asc_putT (asc_putT h)
 ·exact asc_putT h
theorem asc_ticksC : ∀ {cls : List Cl} {ts : List Int},ts.Pairwise (· < ·)→(ticksC ts cls).Pairwise (· < ·)
 | [],_,h => h
 | c :: cls,ts,h => asc_ticksC (cls:=cls) (ts:=clPut ts c) (asc_clPut h)
def clE (S : Sp) (c : Cl) : Int:=if c.1 ∈ allFrom 0 S.rs then (if 0 ≤ c.2.1∧c.2.1 ≤ 100000000∧(c.2.2 = -1 ∨ c.2.1 < c.2.2∧c.2.2 ≤ 100000000) then 0 else 7) else 4
def audE (S : Sp) (l : List Ev) : Int:=if (checkP S).2 = 0 then (if (recE S l).2 = 0 then 0 else 6) else (checkP S).2
def cl0 : Cl:=((0,0),0,0)
def clsF (S : Sp) (cls : List Cl) (i : Nat) : Int:=clE S (cls.getD i cl0)
def clsE (S : Sp) (l : List Ev) (cls : List Cl) : Int:=if audE S l = 0 then (if 20000 < cls.length then 3 else match fst0 (clsF S cls) cls.length with
 | some i => clsF S cls i
 | none => 0) else audE S l
theorem audE_ok {S : Sp} {l : List Ev} (h : audE S l = 0) : RecOk S l:=by
 unfold audE at h
 split at h
 ·split at h
  ·rename_i q
   exact recE_ok q
  ·cases h
 ·rename_i q
  exact absurd h q
theorem clsE_ok {S : Sp} {l : List Ev} {cls : List Cl} (h : clsE S l cls = 0) : RecOk S l∧cls.length ≤ 20000∧∀ c ∈ cls,clE S c = 0:=by
 unfold clsE at h
 split at h
 ·rename_i q
  split at h
  ·cases h
  ·rename_i q2
   cases hf : fst0 (clsF S cls) cls.length with
   | some i =>
    rw [hf] at h
    exact absurd h (fst0_is hf).2.1
   | none =>
    refine ⟨audE_ok q,by omega,fun c hc => ?_⟩
    obtain ⟨i,hi,rfl⟩:=List.getElem_of_mem hc
    have:=fst0_none.1 hf i hi
    unfold clsF at this
    rwa [getD_at hi] at this
 ·rename_i q
  exact absurd h q
def faCl (S : Sp) (B : (Th→Int)→Pp→Bool) (l : List Ev) (cls : List Cl) : List Fa:=faAll (kdCl B l cls) (allFrom 0 S.rs) (ticksC (ticksL [] l) cls)
def faTw (S : Sp) (B : (Th→Int)→Pp→Bool) (a b : List Ev) : List Fa:=faAll (kdTw B a b) (allFrom 0 S.rs) (ticksL (ticksL [] a) b)
def ClP (S : Sp) (B : (Th→Int)→Pp→Bool) (l : List Ev) (cls : List Cl) (m : List Fa) (c : Int) : Prop:=(clsE S l cls ≠ 0∧m = []∧c = clsE S l cls) ∨ (clsE S l cls = 0∧FaP (faCl S B l cls) m c)
theorem ClP.one {S : Sp} {B : (Th→Int)→Pp→Bool} {l : List Ev} {cls : List Cl} {m m' : List Fa} {c c' : Int} (h : ClP S B l cls m c) (h' : ClP S B l cls m' c') : m = m'∧c = c':=by
 rcases h with ⟨a,rfl,rfl⟩ | ⟨a,h⟩ <;> rcases h' with ⟨a',rfl,rfl⟩ | ⟨a',h'⟩
 ·exact ⟨rfl,rfl⟩
 ·exact absurd a' a
 ·exact absurd a a'
 ·exact FaP.one (faAll_noTie (asc_ticksC (asc_ticksL List.Pairwise.nil)) (asc_allFrom _ _)) h h'
def twE (S : Sp) (a b : List Ev) : Int:=if audE S a = 0 then audE S b else audE S a
def TwP (S : Sp) (B : (Th→Int)→Pp→Bool) (a b : List Ev) (m : List Fa) (c : Int) : Prop:=(twE S a b ≠ 0∧m = []∧c = twE S a b) ∨ (twE S a b = 0∧FaP (faTw S B a b) m c)
theorem TwP.one {S : Sp} {B : (Th→Int)→Pp→Bool} {a b : List Ev} {m m' : List Fa} {c c' : Int} (h : TwP S B a b m c) (h' : TwP S B a b m' c') : m = m'∧c = c':=by
 rcases h with ⟨x,rfl,rfl⟩ | ⟨x,h⟩ <;> rcases h' with ⟨x',rfl,rfl⟩ | ⟨x',h'⟩
 ·exact ⟨rfl,rfl⟩
 ·exact absurd x' x
 ·exact absurd x x'
 ·exact FaP.one (faAll_noTie (asc_ticksL (asc_ticksL List.Pairwise.nil)) (asc_allFrom _ _)) h h'
theorem clE_to {S : Sp} {c : Cl} (h : clE S c = 0) : c.1 ∈ allFrom 0 S.rs∧0 ≤ c.2.1∧c.2.1 ≤ 100000000∧(c.2.2 = -1 ∨ c.2.1 < c.2.2∧c.2.2 ≤ 100000000):=by
 unfold clE at h
 split at h
 ·rename_i q
  split at h
  ·rename_i q2
   exact ⟨q,q2⟩
  ·cases h
 ·cases h
theorem snd_all {S : Sp} (g : ∀ x ∈ S.ss,∀ key,∀ p ∈ playsL x key,p ∈ allFrom 0 S.rs) {f : Th→Int} {p : Pp} (h : Snd S f p) : p ∈ allFrom 0 S.rs:=by
 obtain ⟨i,hi,_,key,_,_,hp⟩:=h
 exact g _ (List.getElem_mem hi) key p (mem_playsL.2 hp)
theorem chg_all {S : Sp} {B : (Th→Int)→Pp→Bool} (hB : SndIs S B) (g : ∀ x ∈ S.ss,∀ key,∀ p ∈ playsL x key,p ∈ allFrom 0 S.rs) {l : List Ev} {out : List Cg} (ho : ChgOf B l out) {x : Cg} (hx : x ∈ out) : x.2.1 ∈ allFrom 0 S.rs∧(∃ y ∈ l,y.1 = x.1)∧x.2.2.2 = 0∧(x.2.2.1 = 1 ∨ x.2.2.1 = -1):=by
 have h1 : x ∈ ofP x.2.1 out:=List.mem_filter.2 ⟨hx,by simp⟩
 rw [ho x.2.1] at h1
 obtain ⟨_,⟨y,hy,e⟩,h3⟩:=mem_chP h1
 have hin : x.2.1 ∈ allFrom 0 S.rs:=by
  have hex : ∃ z ∈ momP B l x.2.1 l.length,z.2 = true:=by
   rcases Classical.em (∃ z ∈ momP B l x.2.1 l.length,z.2 = true) with h | h
   ·exact h
   ·exfalso
    have : ∀ ms : List (Int × Bool),(∀ z ∈ ms,z.2 = false)→chP x.2.1 false ms = []:=by
     intro ms
     induction ms with
     | nil => intro _; rfl
     | cons z ms ih =>
      intro hz
      obtain ⟨u,b⟩:=z
      have:=hz (u,b) (by simp)
      simp only at this
      subst this
      rw [chP,if_pos rfl,List.nil_append]
      exact ih fun z' hz' => hz z' (by simp [hz'])
    unfold chL at h1
    rw [this _ fun z hz => by
     cases e : z.2 with
     | false => rfl
     | true => exact absurd ⟨z,hz,e⟩ h] at h1
    cases h1
  obtain ⟨z,hz,e⟩:=hex
  unfold momP at hz
  obtain ⟨i,_,rfl⟩:=List.mem_map.1 hz
  exact snd_all g ((hB _ _).1 e)
 refine ⟨hin,?_,h3⟩
 unfold momP at hy
 obtain ⟨i,hi,rfl⟩:=List.mem_map.1 hy
 have hil:=(mem_momI.1 hi).1
 refine ⟨l[i],List.getElem_mem hil,?_⟩
 rw [← e]
 simp only
 rw [getD_at hil]
theorem RecOk.nonneg {S : Sp} {l : List Ev} (h : RecOk S l) {x : Ev} (hx : x ∈ l) : 0 ≤ x.1∧x.1 ≤ 100000000:=by
 obtain ⟨i,hi,rfl⟩:=List.getElem_of_mem hx
 exact ⟨(h.tick i hi).1,(h.tick i hi).2.1⟩
theorem goF_cl {S : Sp} {B : (Th→Int)→Pp→Bool} (hB : SndIs S B) (g : ∀ x ∈ S.ss,∀ key,∀ p ∈ playsL x key,p ∈ allFrom 0 S.rs) {l : List Ev} {cls : List Cl} (hE : clsE S l cls = 0) {out srt : List Cg} (ho : ChgOf B l out) (hp : srt.Perm (out ++ cls.flatMap clCg)) (hs : srt.Pairwise cgLe) : goF none 0 0 0 [] srt = faCl S B l cls:=by
 obtain ⟨hR,hlen,hc⟩:=clsE_ok hE
 have hin : ∀ x ∈ srt,x.2.1 ∈ allFrom 0 S.rs∧0 ≤ x.1∧x.1 ∈ ticksC (ticksL [] l) cls:=by
  intro x hx
  rcases List.mem_append.1 (hp.mem_iff.1 hx) with h | h
  ·obtain ⟨h1,⟨y,hy,e⟩,_⟩:=chg_all hB g ho h
   refine ⟨h1,by rw [← e]; exact (hR.nonneg hy).1,mem_ticksC.2 (.inl (mem_ticksL.2 (.inr ⟨y,hy,e⟩)))⟩
  ·obtain ⟨c,hc1,h⟩:=List.mem_flatMap.1 h
   have h2:=clE_to (hc c hc1)
   unfold clCg at h
   rcases List.mem_cons.1 h with rfl | h
   ·exact ⟨h2.1,h2.2.1,mem_ticksC.2 (.inr ⟨c,hc1,.inl rfl⟩)⟩
   ·split at h
    ·rename_i q
     rw [List.mem_singleton] at h
     subst h
     exact ⟨h2.1,q,mem_ticksC.2 (.inr ⟨c,hc1,.inr ⟨q,rfl⟩⟩)⟩
    ·cases h
 unfold faCl
 refine goF_faAll (asc_allFrom _ _) hs (fun x hx => (hin x hx).1) (fun x hx => (hin x hx).2.1) (asc_ticksC (asc_ticksL List.Pairwise.nil)) (fun x hx => (hin x hx).2.2) ?_
 intro p _ t _
 rw [kdC_perm hp]
 refine kdC_cl hB hR.asc (fun c hc1 => ?_) ho p t
 have:=(clE_to (hc c hc1)).2.2.2
 omega
theorem twE_ok {S : Sp} {a b : List Ev} (h : twE S a b = 0) : RecOk S a∧RecOk S b:=by
 unfold twE at h
 split at h
 ·rename_i q
  exact ⟨audE_ok q,audE_ok h⟩
 ·rename_i q
  exact absurd h q
theorem goF_tw {S : Sp} {B : (Th→Int)→Pp→Bool} (hB : SndIs S B) (g : ∀ x ∈ S.ss,∀ key,∀ p ∈ playsL x key,p ∈ allFrom 0 S.rs) {a b : List Ev} (hE : twE S a b = 0) {out out2 srt : List Cg} (ho : ChgOf B a out) (ho2 : ChgOf B b out2) (hp : srt.Perm (out ++ out2.map toCl)) (hs : srt.Pairwise cgLe) : goF none 0 0 0 [] srt = faTw S B a b:=by
 obtain ⟨hA,hB2⟩:=twE_ok hE
 have hin : ∀ x ∈ srt,x.2.1 ∈ allFrom 0 S.rs∧0 ≤ x.1∧x.1 ∈ ticksL (ticksL [] a) b:=by
  intro x hx
  rcases List.mem_append.1 (hp.mem_iff.1 hx) with h | h
  ·obtain ⟨h1,⟨y,hy,e⟩,_⟩:=chg_all hB g ho h
   exact ⟨h1,by rw [← e]; exact (hA.nonneg hy).1,mem_ticksL.2 (.inl (mem_ticksL.2 (.inr ⟨y,hy,e⟩)))⟩
  ·obtain ⟨z,hz,rfl⟩:=List.mem_map.1 h
   obtain ⟨h1,⟨y,hy,e⟩,_⟩:=chg_all hB g ho2 hz
   exact ⟨h1,by show 0 ≤ z.1; rw [← e]; exact (hB2.nonneg hy).1,mem_ticksL.2 (.inr ⟨y,hy,e⟩)⟩
 unfold faTw
 refine goF_faAll (asc_allFrom _ _) hs (fun x hx => (hin x hx).1) (fun x hx => (hin x hx).2.1) (asc_ticksL (asc_ticksL List.Pairwise.nil)) (fun x hx => (hin x hx).2.2) ?_
 intro p _ t _
 rw [kdC_perm hp]
 exact kdC_tw hB hA.asc hB2.asc ho ho2 p t
end Go.Proofs.YthhfmppealmblaaGreatDoor
namespace Go.Proofs.YthhfmppealmblaaGreatDoor
structure OnOk (S : Sp) (f : Th→Int) : Prop where
 key : ∀ d k : Int,f (1,d,k) ≠ 0→keyOk S (d,k) = true∧0 ≤ k∧k < 128∧d < 6
 bin : ∀ t : Th,t.1 = 1 ∨ t.1 = 2 ∨ t.1 = 3→f t = 0 ∨ f t = 1
 stop : ∀ d n : Int,f (2,d,n) ≠ 0→d = 0∧0 ≤ n∧n < S.ss.length
 cou : ∀ d n : Int,f (3,d,n) ≠ 0→d = 0∧0 ≤ n∧n < S.cs.length
theorem onOk_zero (S : Sp) : OnOk S (fun _ => 0):=⟨fun _ _ h => absurd rfl h,fun _ _ => .inl rfl,fun _ _ h => absurd rfl h,fun _ _ h => absurd rfl h⟩
theorem pl_count {l : List Pl} (hn : l.Nodup) (h : ∀ x ∈ l,0 ≤ x.1∧x.1 < 6∧0 ≤ x.2∧x.2 < 128) : l.length ≤ 768:=by
 have key : ∀ (n : Nat) (l : List Nat),l.Nodup→(∀ x ∈ l,x < n)→l.length ≤ n:=by
  intro n
  induction n with
  | zero =>
   intro l _ h
   cases l with
   | nil => exact Nat.le_refl _
   | cons x l => exact absurd (h x (by simp)) (Nat.not_lt_zero x)
  | succ n ih =>
   intro l hn h
   by_cases hm : n ∈ l
   ·have h1:=ih (l.erase n) (hn.erase n) fun x hx => by
     have h2:=h x (List.mem_of_mem_erase hx)
     have h3 : x ≠ n:=fun e => by
      subst e
      exact (List.Nodup.mem_erase_iff hn).1 hx |>.1 rfl
     omega
    rw [List.length_erase_of_mem hm] at h1
    omega
   ·have h1:=ih l hn fun x hx => by
     have h2:=h x hx
     have h3 : x ≠ n:=fun e => hm (e ▸ hx)
     omega
    omega
 have h2:=key 768 (l.map fun x => (x.1 * 128 + x.2).toNat) (by
  rw [List.nodup_iff_pairwise_ne,List.pairwise_map]
  refine (List.Pairwise.and_mem.1 (List.nodup_iff_pairwise_ne.1 hn)).imp ?_
  rintro a b ⟨ha,hb,hne⟩ e
  have h3:=h a ha
  have h4:=h b hb
  exact hne (Prod.ext (by omega) (by omega))) (by
  intro x hx
  obtain ⟨y,hy,rfl⟩:=List.mem_map.1 hx
  have:=h y hy
  omega)
 rwa [List.length_map] at h2
def addM (S : Sp) (m : List Pl) (x : Pl) : List Pl:=if keyOk S x = true∧x ∉ m then m ++ [x] else m
def addQ (S : Sp) (m q : List Pl) (x : Pl) : List Pl:=if keyOk S x = true∧x ∉ m then q ++ [x] else q
theorem addM_yes {S : Sp} {m : List Pl} {x : Pl} (h : keyOk S x = true) (hx : x ∉ m) : addM S m x = m ++ [x]:=if_pos ⟨h,hx⟩
theorem addM_no {S : Sp} {m : List Pl} {x : Pl} (h : keyOk S x = false ∨ x ∈ m) : addM S m x = m:=if_neg fun q => by
 rcases h with h | h
 ·rw [h] at q; cases q.1
 ·exact q.2 h
theorem addQ_yes {S : Sp} {m q : List Pl} {x : Pl} (h : keyOk S x = true) (hx : x ∉ m) : addQ S m q x = q ++ [x]:=if_pos ⟨h,hx⟩
theorem addQ_no {S : Sp} {m q : List Pl} {x : Pl} (h : keyOk S x = false ∨ x ∈ m) : addQ S m q x = q:=if_neg fun z => by
 rcases h with h | h
 ·rw [h] at z; cases z.1
 ·exact z.2 h
theorem mem_addM {S : Sp} {m : List Pl} {x y : Pl} : y ∈ addM S m x ↔ y ∈ m ∨ (y = x∧keyOk S x = true):=by
 unfold addM
 by_cases h : keyOk S x = true∧x ∉ m
 ·rw [if_pos h,List.mem_append,List.mem_singleton]
  exact ⟨fun q => q.imp id fun e => ⟨e,h.1⟩,fun q => q.imp id fun e => e.1⟩
 ·rw [if_neg h]
  refine ⟨.inl,fun q => ?_⟩
  rcases q with q | ⟨rfl,q⟩
  ·exact q
  ·exact Classical.byContradiction fun z => h ⟨q,z⟩
def thrB (S : Sp) (f : Th→Int) (x : Pl) (i : Nat) : Bool:=match S.cs[i]? with
 | none => false
 | some c => decide (f (3,0,(i : Int)) = 1) && c.thr && decide (c.frm = x.1)
def thrTo (S : Sp) (x : Pl) (i : Nat) : Pl:=match S.cs[i]? with
 | none => x
 | some c => (c.to,x.2 + c.shift)
structure AcI (S : Sp) (f : Th→Int) (m q : List Pl) : Prop where
 nodup : m.Nodup
 ok : ∀ x ∈ m,keyOk S x = true
 act : ∀ x ∈ m,Acts S f x
 sub : ∀ x ∈ q,x ∈ m
 closed : ∀ x ∈ m,x ∉ q→∀ i,i < S.cs.length→thrB S f x i = true→keyOk S (thrTo S x i) = true→thrTo S x i ∈ m
theorem AcI.nil (S : Sp) (f : Th→Int) : AcI S f [] []:=⟨List.nodup_nil,fun _ h => (by cases h),fun _ h => (by cases h),fun _ h => (by cases h),fun _ h => (by cases h)⟩
theorem AcI.add {S : Sp} {f : Th→Int} {m q : List Pl} (h : AcI S f m q) {x : Pl} (hx : keyOk S x = true→Acts S f x) : AcI S f (addM S m x) (addQ S m q x):=by
 by_cases c : keyOk S x = true∧x ∉ m
 ·rw [addM_yes c.1 c.2,addQ_yes c.1 c.2]
  refine ⟨?_,fun y hy => ?_,fun y hy => ?_,fun y hy => ?_,fun y hy hq i hi ht hk => ?_⟩
  ·rw [List.nodup_append]
   refine ⟨h.nodup,by simp,fun a ha b hb e => ?_⟩
   rw [List.mem_singleton] at hb
   exact c.2 (by rw [← hb,← e]; exact ha)
  ·rcases List.mem_append.1 hy with hy | hy
   ·exact h.ok y hy
   ·rw [List.mem_singleton.1 hy]; exact c.1
  ·rcases List.mem_append.1 hy with hy | hy
   ·exact h.act y hy
   ·rw [List.mem_singleton.1 hy]; exact hx c.1
  ·rcases List.mem_append.1 hy with hy | hy
   ·exact List.mem_append_left _ (h.sub y hy)
   ·exact List.mem_append_right _ hy
  ·rw [List.mem_append,not_or] at hq
   rcases List.mem_append.1 hy with hy | hy
   ·exact List.mem_append_left _ (h.closed y hy hq.1 i hi ht hk)
   ·exact absurd hy hq.2
 ·have c2 : keyOk S x = false ∨ x ∈ m:=by
   cases e : keyOk S x with
   | false => exact .inl rfl
   | true => exact .inr (Classical.byContradiction fun z => c ⟨e,z⟩)
  rw [addM_no c2,addQ_no c2]
  exact h
theorem keyOk_lt {S : Sp} (hd : S.ds.length ≤ 6) (hdv : ∀ d ∈ S.ds,dvE d = 0) {x : Pl} (h : keyOk S x = true) : 0 ≤ x.1∧x.1 < S.ds.length∧x.1 < 6∧0 ≤ x.2∧x.2 < 128:=by
 unfold keyOk at h
 rw [Bool.and_eq_true,Bool.and_eq_true,decide_eq_true_iff,decide_eq_true_iff] at h
 obtain ⟨⟨h1,h2⟩,h3⟩:=h
 unfold keyIn at h2
 have hb : x.1.toNat < S.ds.length:=by omega
 rw [List.getElem?_eq_getElem hb] at h2
 simp only [decide_eq_true_iff] at h2
 have h4:=hdv _ (List.getElem_mem hb)
 unfold dvE at h4
 split at h4
 ·omega
 ·cases h4
theorem AcI.len {S : Sp} {f : Th→Int} {m q : List Pl} (h : AcI S f m q) (hd : S.ds.length ≤ 6) (hdv : ∀ d ∈ S.ds,dvE d = 0) : m.length ≤ 768 :=
 pl_count h.nodup fun x hx => by
  have:=keyOk_lt hd hdv (h.ok x hx)
  omega
structure AcT (S : Sp) (f : Th→Int) (x : Pl) (k : Nat) (m q : List Pl) : Prop where
 nodup : m.Nodup
 ok : ∀ y ∈ m,keyOk S y = true
 act : ∀ y ∈ m,Acts S f y
 sub : ∀ y ∈ q,y ∈ m
 here : x ∈ m
 closed : ∀ y ∈ m,y ≠ x→y ∉ q→∀ i,i < S.cs.length→thrB S f y i = true→keyOk S (thrTo S y i) = true→thrTo S y i ∈ m
 done : ∀ i,i < k→thrB S f x i = true→keyOk S (thrTo S x i) = true→thrTo S x i ∈ m
theorem AcI.take {S : Sp} {f : Th→Int} {m q : List Pl} {x : Pl} (h : AcI S f m (x :: q)) : AcT S f x 0 m q :=
 ⟨h.nodup,h.ok,h.act,fun y hy => h.sub y (List.mem_cons_of_mem _ hy),h.sub x (by simp),fun y hy hne hq => h.closed y hy (fun z => by
  rcases List.mem_cons.1 z with z | z
  ·exact hne z
  ·exact hq z),fun i hi => absurd hi (Nat.not_lt_zero i)⟩
theorem AcT.skip {S : Sp} {f : Th→Int} {m q : List Pl} {x : Pl} {k : Nat} (h : AcT S f x k m q) (hn : thrB S f x k = false) : AcT S f x (k + 1) m q :=
 ⟨h.nodup,h.ok,h.act,h.sub,h.here,h.closed,fun i hi ht => by
  by_cases e : i = k
  ·subst e; rw [hn] at ht; cases ht
  ·exact h.done i (by omega) ht⟩
theorem act_thr {S : Sp} {f : Th→Int} {x : Pl} {k : Nat} (hk : k < S.cs.length) (ht : thrB S f x k = true) (hx : Acts S f x) (ok : keyOk S (thrTo S x k) = true) : Acts S f (thrTo S x k):=by
 unfold thrB at ht
 unfold thrTo at ok ⊢
 rw [List.getElem?_eq_getElem hk] at ht ok ⊢
 simp only [Bool.and_eq_true,decide_eq_true_iff] at ht ok ⊢
 obtain ⟨d,key⟩:=x
 have e : S.cs[k].frm = d:=ht.2
 subst e
 exact .thr k hk ht.1.1 ht.1.2 key hx ok
theorem AcT.add {S : Sp} {f : Th→Int} {m q : List Pl} {x : Pl} {k : Nat} (h : AcT S f x k m q) (hk : k < S.cs.length) (ht : thrB S f x k = true) : AcT S f x (k + 1) (addM S m (thrTo S x k)) (addQ S m q (thrTo S x k)):=by
 have hdone : ∀ i,i < k + 1→thrB S f x i = true→keyOk S (thrTo S x i) = true→thrTo S x i ∈ addM S m (thrTo S x k):=by
  intro i hi hti hki
  rw [mem_addM]
  by_cases e : i = k
  ·subst e; exact .inr ⟨rfl,hki⟩
  ·exact .inl (h.done i (by omega) hti hki)
 generalize hy : thrTo S x k = y at *
 have hact : keyOk S y = true→Acts S f y:=fun ok => by rw [← hy] at ok ⊢; exact act_thr hk ht (h.act x h.here) ok
 by_cases c : keyOk S y = true∧y ∉ m
 ·rw [addM_yes c.1 c.2] at hdone ⊢
  rw [addQ_yes c.1 c.2]
  refine ⟨?_,fun z hz => ?_,fun z hz => ?_,fun z hz => ?_,List.mem_append_left _ h.here,fun z hz hne hq i hi ht2 hk2 => ?_,hdone⟩
  ·rw [List.nodup_append]
   refine ⟨h.nodup,by simp,fun a ha b hb e => ?_⟩
   rw [List.mem_singleton] at hb
   exact c.2 (by rw [← hb,← e]; exact ha)
  ·rcases List.mem_append.1 hz with hz | hz
   ·exact h.ok z hz
   ·rw [List.mem_singleton.1 hz]; exact c.1
  ·rcases List.mem_append.1 hz with hz | hz
   ·exact h.act z hz
   ·rw [List.mem_singleton.1 hz]; exact hact c.1
  ·rcases List.mem_append.1 hz with hz | hz
   ·exact List.mem_append_left _ (h.sub z hz)
   ·exact List.mem_append_right _ hz
  ·rw [List.mem_append,not_or] at hq
   rcases List.mem_append.1 hz with hz | hz
   ·exact List.mem_append_left _ (h.closed z hz hne hq.1 i hi ht2 hk2)
   ·exact absurd hz hq.2
 ·have c2 : keyOk S y = false ∨ y ∈ m:=by
   cases e : keyOk S y with
   | false => exact .inl rfl
   | true => exact .inr (Classical.byContradiction fun z => c ⟨e,z⟩)
  rw [addM_no c2] at hdone ⊢
  rw [addQ_no c2]
  exact ⟨h.nodup,h.ok,h.act,h.sub,h.here,h.closed,hdone⟩
theorem AcT.end {S : Sp} {f : Th→Int} {m q : List Pl} {x : Pl} (h : AcT S f x S.cs.length m q) : AcI S f m q :=
 ⟨h.nodup,h.ok,h.act,h.sub,fun y hy hq i hi ht hk => by
  by_cases e : y = x
  ·subst e; exact h.done i hi ht hk
  ·exact h.closed y hy e hq i hi ht hk⟩
structure AcH (S : Sp) (f : Th→Int) (m : List Pl) : Prop where
 key : ∀ d k,0 ≤ d∧d < (S.ds.length : Int)→k ∈ playedL f d→(d,k) ∈ m
 cou : ∀ i (hi : i < S.cs.length),f (3,0,(i : Int)) = 1→∀ k ∈ takes S.cs[i].only (playedL f S.cs[i].frm),keyOk S (S.cs[i].to,k + S.cs[i].shift) = true→(S.cs[i].to,k + S.cs[i].shift) ∈ m
theorem act_all {S : Sp} {f : Th→Int} {m : List Pl} (h : AcI S f m []) (hh : AcH S f m) (x : Pl) : x ∈ m ↔ Acts S f x:=by
 refine ⟨h.act x,act_in (Q:=fun x => x ∈ m) hh.key hh.cou ?_ x⟩
 intro i hi hon ht k hk ok
 have e : thrTo S (S.cs[i].frm,k) i = (S.cs[i].to,k + S.cs[i].shift):=by unfold thrTo; rw [List.getElem?_eq_getElem hi]
 rw [← e]
 refine h.closed _ hk (by simp) i hi ?_ (by rw [e]; exact ok)
 unfold thrB
 rw [List.getElem?_eq_getElem hi]
 simp only [Bool.and_eq_true,decide_eq_true_iff]
 exact ⟨⟨hon,ht⟩,trivial⟩
theorem addQ_measure {S : Sp} {m q : List Pl} {x : Pl} : 2 * (addM S m x).length + q.length = 2 * m.length + (addQ S m q x).length + (if keyOk S x = true∧x ∉ m then 1 else 0):=by
 unfold addM addQ
 split
 ·simp only [List.length_append,List.length_singleton]; omega
 ·omega
end Go.Proofs.YthhfmppealmblaaGreatDoor
