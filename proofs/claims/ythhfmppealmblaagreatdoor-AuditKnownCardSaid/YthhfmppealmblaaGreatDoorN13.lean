/-
  A part of the proof: AR2, OpenA.
-/
import Derived.Test.YthhfmppealmblaaGreatDoorN12
import Derived.Test.YthhfmppealmblaaGreatDoorN01
namespace Go.Proofs.YthhfmppealmblaaGreatDoor
open Go.RowKit
def clC (c:Cl):List Value:=[.int .i64 c.1.1,.int .i64 c.1.2,.int .i64 c.2.1,.int .i64 c.2.2]
theorem ARd.clAt {w:World} {v:Value} {l:List Cl} (h:ARd w v 4 (l.map clC)) (i:Nat) (hi:i<l.length):∃ b o c,v = .slice (some ⟨b,o,none⟩) l.length c∧b<w.heap.size∧w.cell? ⟨b,o+i * 4,none⟩=some (.int .i64 l[i].1.1)∧w.cell? ⟨b,o+i * 4+1,none⟩=some (.int .i64 l[i].1.2)∧w.cell? ⟨b,o+i * 4+2,none⟩=some (.int .i64 l[i].2.1)∧w.cell? ⟨b,o+i * 4+3,none⟩=some (.int .i64 l[i].2.2):=by
 obtain ⟨b,o,c,e,hlt,hc⟩:=h.at i (by simpa using hi)
 rw [List.getElem_map] at hc
 rw [List.length_map] at e
 exact ⟨b,o,c,e,hlt,hc 0 _ rfl,hc 1 _ rfl,hc 2 _ rfl,hc 3 _ rfl⟩
theorem ARd.clForm {w:World} {v:Value} {l:List Cl} (h:ARd w v 4 (l.map clC)):∃ a c,v = .slice a l.length c:=by
 obtain ⟨a,c,e⟩:=h.form
 exact ⟨a,c,by simpa using e⟩
end Go.Proofs.YthhfmppealmblaaGreatDoor
namespace Go.Proofs.YthhfmppealmblaaGreatDoor
open Go.ChangeShapes Go.WideShapes Go.ChangeAt Go.ChangeMaps Go.RowKit
section
variable {H : Type} {enc : TypeId × Value → H} {W : World} {base : Nat} {spare : Nat → Bool} {held : Bool}
theorem cP_ev:Tryz.prog.cellsOf 42=5:=by kernel_rfl
theorem cP_cl:Tryz.prog.cellsOf 47=4:=by kernel_rfl
theorem ev_open (n:Nat) (cs:List Value) (y:DataW H × List MemPlace) (h:DataW.trod enc Tryz.prog W base spare held n 42 cs=some y):∃ x:Ev,cs=evC x∧True:=by
 have hl:=(len_struct Tryz.underlying42 h).trans cP_ev
 obtain ⟨a,ha,_⟩:=fld_int Tryz.underlying42 h 0 _ rfl Tryz.underlying2
 obtain ⟨b,hb,_⟩:=fld_int Tryz.underlying42 h 1 _ rfl Tryz.underlying3
 obtain ⟨c,hc,_⟩:=fld_int Tryz.underlying42 h 2 _ rfl Tryz.underlying3
 obtain ⟨d,hd,_⟩:=fld_int Tryz.underlying42 h 3 _ rfl Tryz.underlying3
 obtain ⟨e,he,_⟩:=fld_int Tryz.underlying42 h 4 _ rfl Tryz.underlying3
 exact ⟨(a,b,c,d,e),list5 hl ha hb hc hd he,trivial⟩
theorem cl_open (n:Nat) (cs:List Value) (y:DataW H × List MemPlace) (h:DataW.trod enc Tryz.prog W base spare held n 47 cs=some y):∃ x:Cl,cs=clC x∧True:=by
 have hl:=(len_struct Tryz.underlying47 h).trans cP_cl
 obtain ⟨a,b,ha,hb,_,_⟩:=fld_two Tryz.underlying47 h 0 _ _ _ rfl Tryz.underlying45 rfl rfl Tryz.underlying3 Tryz.underlying3
 obtain ⟨c,hc,_⟩:=fld_int Tryz.underlying47 h 1 _ rfl Tryz.underlying2
 obtain ⟨d,hd,_⟩:=fld_int Tryz.underlying47 h 2 _ rfl Tryz.underlying2
 exact ⟨((a,b),c,d),list4 hl ha hb hc hd,trivial⟩
set_option maxRecDepth 100000 in
theorem rec_open {b0:Nat} {r:Reach} {v:Value} {d:DataW H} {p:List MemPlace} (hv:Value.okWide Tryz.prog W r b0 28 v) (h:DataW.Trod enc Tryz.prog W base spare held 28 v d p) :
  ∃ l:List Ev,ARd W v 5 (l.map evC):=by
 obtain ⟨a0,l0,c0,rfl⟩:=okWide_slice Tryz.underlying28 hv
 obtain ⟨fuel,hf⟩:=h
 obtain ⟨v',l,hc,hr,_⟩:=slice_rows evC (fun _=>True) Tryz.underlying28 cP_ev (by omega) ev_open hf
 simp only [Value.cells,List.cons.injEq,and_true] at hc
 exact ⟨l,by rw [hc];exact hr⟩
set_option maxRecDepth 100000 in
theorem clm_open {b0:Nat} {r:Reach} {v:Value} {d:DataW H} {p:List MemPlace} (hv:Value.okWide Tryz.prog W r b0 29 v) (h:DataW.Trod enc Tryz.prog W base spare held 29 v d p) :
  ∃ l:List Cl,ARd W v 4 (l.map clC):=by
 obtain ⟨a0,l0,c0,rfl⟩:=okWide_slice Tryz.underlying29 hv
 obtain ⟨fuel,hf⟩:=h
 obtain ⟨v',l,hc,hr,_⟩:=slice_rows clC (fun _=>True) Tryz.underlying29 cP_cl (by omega) cl_open hf
 simp only [Value.cells,List.cons.injEq,and_true] at hc
 exact ⟨l,by rw [hc];exact hr⟩
end
end Go.Proofs.YthhfmppealmblaaGreatDoor
