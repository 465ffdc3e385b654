/-
  A part of the proof: AM0.
-/
import Derived.Test.YthhfmppealmblaaGreatDoorK04
import Derived.Test.YthhfmppealmblaaGreatDoorK05
namespace Go.Proofs.YthhfmppealmblaaGreatDoor
open Go.RowKit
theorem bd_player:∃ Z:Array Value,OnI (fun _=>0) Z∧∀ PB:Nat,Tryz.zeroCells134.setIfInBounds 0 (.pointer (some ⟨PB,0,none⟩))=plC PB Z 0 :=
 ⟨Tryz.zeroCells119,onI_zero,fun PB=>by kernel_rfl⟩
theorem PlX.start0 (W:World) (PB:Nat):PlX (fun _=>0) 0 PB (W.alloc (.cells (Tryz.zeroCells134.setIfInBounds 0 (.pointer (some ⟨PB,0,none⟩))) 134)) W.heap.size:=by
 obtain ⟨Z,hZ,e⟩:=bd_player
 rw [e]
 exact ⟨_,hZ,Blk.new W _ _⟩
structure EvsR (w:World) (vt:Value) (ps:List (Value × List Ev)):Prop where
 rd:ARd w vt 1 (ps.map fun x=>[x.1])
 all:∀ x∈ps,ARd w x.1 5 (x.2.map evC)
theorem EvsR.later {w w':World} {vt:Value} {ps:List (Value × List Ev)} (h:EvsR w vt ps) (hb:Below w.heap.size w w'):EvsR w' vt ps:=⟨h.rd.later hb,fun x hx=>(h.all x hx).later hb⟩
theorem EvsR.at {w:World} {vt:Value} {ps:List (Value × List Ev)} (h:EvsR w vt ps) (i:Nat) (hi:i<ps.length):∃ b o c,vt = .slice (some ⟨b,o,none⟩) ps.length c∧b<w.heap.size∧w.cell? ⟨b,o+i,none⟩=some ps[i].1:=by
 obtain ⟨b,o,c,e,hlt,hc⟩:=h.rd.at i (by simpa using hi)
 rw [List.getElem_map] at hc
 rw [List.length_map] at e
 exact ⟨b,o,c,e,hlt,by have:=hc 0 _ rfl;rwa [Nat.mul_one] at this⟩
theorem ARd.evC' {w:World} {v:Value} {l:List Ev} (h:ARd w v 5 (l.map evC)) (i:Nat) (hi:i<l.length):∃ b o c,v = .slice (some ⟨b,o,none⟩) l.length c∧EvC w b (o+i * 5) l[i]:=by
 obtain ⟨b,o,c',ev,hbl,k0,k1,k2,k3,k4⟩:=h.evAt i hi
 exact ⟨b,o,c',ev,hbl,k0,k1,k2,k3,k4⟩
end Go.Proofs.YthhfmppealmblaaGreatDoor
