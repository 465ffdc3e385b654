/-
  PROVED HERE: the card of the law WordsNumbers: for every input the call returns true and leaves its arguments as they were; the listed package-level variables start as the program's text lays them. The walk lies in YtoclgcneclbfiaaDoorL10.
-/
import Derived.Test.YtoclgcneclbfiaaDoorOpen2
import Derived.Test.YtoclgcneclbfiaaDoorL10
namespace Go.Proofs.YtoclgcneclbfiaaDoor
open Go.ChangeShapes Go.WideShapes Go.ChangeAt Go.ChangeMaps Go.RowKit

theorem wordsNumbers_reads (os : Os) {H : Type} (enc : TypeId × Value → H) : ∃ places, DataW.whole enc Tryd.prog ((laidWorld os).forCall (fun _ _ => 0) ⟨#[], #[.int .i64 0, .agg #[.string ⟨#[]⟩, .int .i64 0, .int .i64 0]], []⟩).memory Tryd.f10.params.toList Rows.wordsNumbersSpec.vars false (#[.int .i64 0, .agg #[.string ⟨#[]⟩, .int .i64 0, .int .i64 0]] : Array Value).toList 8 = some ([.lit (.int .i64 0), .agg [.lit (.string []), .lit (.int .i64 0), .lit (.int .i64 0)]], [], places) :=
  ⟨[], by kernel_rfl⟩

set_option maxRecDepth 100000 in
theorem wordsNumbers_lifted (os : Os) (started : os.Started) (H : Type) (enc : TypeId × Value → H) (F : Stop.Interp) :
    ReturnsInHanded {} Tryd.checked os 10 .any ((OpenSpec.ofChange Rows.wordsNumbersSpec).preRow enc Tryd.prog Tryd.f10 Rows.wordsNumbersRow.domain false Rows.wordsNumbersRow.laid) (((OpenSpec.ofChange Rows.wordsNumbersSpec).at F).post enc Tryd.prog Tryd.f10 false true false false) := by
  obtain ⟨places, hx⟩ := wordsNumbers_reads os enc
  refine returnsInHanded_of_row (C := Tryd.checked) (s := OpenSpec.ofChange Rows.wordsNumbersSpec) own started (by kernel_rfl) Tryd.func10
    (witness_row_atRef (enc := enc) (C := Tryd.checked) false (laidWorld os) #[.int .i64 0, .agg #[.string ⟨#[]⟩, .int .i64 0, .int .i64 0]] rfl (has7 os _) (rest7 os _) (by kernel_rfl)
      (OpenSpec.preRow_of_cond 8 hx (by kernel_rfl) (fun k hk => by cases hk) (by kernel_rfl) (met9 os _))) ?_
  intro W base args ds gs before hval0 hW _ _ _ hL hsh _
  have hval : ∀ (j : Nat) t v, Tryd.f10.params[j]? = some t → args[j]? = some v → Value.okWide Tryd.prog W .any base t v := hval0
  have hW' := hW
  obtain ⟨p, q, hA0, hV, rfl, hfz, hnd⟩ := hW
  have hA : DataW.TrodAll enc Tryd.prog W 0 (fun _ => true) true Tryd.f10.params.toList args.toList ds p := hA0
  rw [Tryd.params10] at hA hval
  obtain ⟨v0, v1, d0, d1, p0, p1, rfl, rfl, rfl, h0, h1⟩ := trodAll_two hA
  obtain ⟨rfl, rfl⟩ := trodVars_none hV
  obtain ⟨a0, rfl, rfl, rfl, w0⟩ := open_int Tryd.underlying2 (hval 0 2 v0 rfl rfl) h0
  have hk1 := h1
  obtain ⟨x1_0, x1_1, x1_2, y1_0, y1_1, y1_2, m1, rfl, rfl, rfl, e1_0, e1_1, e1_2⟩ := Go.Joins.open_agg3 Tryd.underlying50 (by kernel_rfl) (by kernel_rfl) (hval 1 50 v1 rfl rfl) h1
  obtain ⟨z1_0, g1_0, rfl, w1_0⟩ := DataW.trod_string Tryd.underlying9 e1_0
  obtain rfl : x1_0 = .string z1_0 := by simpa using g1_0
  obtain ⟨z1_1, g1_1, rfl, w1_1⟩ := DataW.trod_int Tryd.underlying2 e1_1
  obtain rfl : x1_1 = .int .i64 z1_1 := by simpa using g1_1
  obtain ⟨z1_2, g1_2, rfl, w1_2⟩ := DataW.trod_int Tryd.underlying2 e1_2
  obtain rfl : x1_2 = .int .i64 z1_2 := by simpa using g1_2
  clear hA0 hval0
  simp only [List.append_nil] at hW'
  refine (wordsNumbers_walk a0 z1_0 z1_1 z1_2 W (tabs9 hL hsh) (errV9 hL) (i64_bounds w0).1 (i64_bounds w0).2 (i64_bounds w1_1).1 (i64_bounds w1_2).2).mono fun e W' ⟨he, hb⟩ => ?_
  subst he
  exact ⟨_, rfl, _, _, _, [], [], [], hW', trodAll_mk1 (shut_bool Tryd.underlying4 _), trodAll_mk2 (shut_int Tryd.underlying2 w0) (Below.trod lays (by kernel_rfl) (of_decide_eq_true (by kernel_rfl)) hk1 hb (by simp)), rfl, hb.frame _, fun h => by cases h⟩

theorem wordsNumbers_said : Rows.WordsNumbersSaid :=
  OpenClaim.holds_of_cond 10 Tryd.f10 rfl rfl rfl rfl rfl rfl rfl ⟨rfl, rfl, rfl, rfl, rfl⟩ rfl rfl rfl rfl rfl (by kernel_rfl) Tryd.func10 (by kernel_rfl)
    (of_decide_eq_true (by kernel_rfl)) (by unfold Func.isWrapper; first | (rw [if_pos (by decide +kernel)]; kernel_rfl) | (rw [if_neg (by decide +kernel)]; exact ⟨rfl, rfl⟩))
    (fun os started H enc _ F => by rw [OpenClaim.pre_eq_preRow]; exact wordsNumbers_lifted os started H enc F)

theorem wordsNumbers_plain (f : FuncId) (fn : Func) (hf : Tryd.pinned.checked.prog.funcNamed "quintadena/quintadenalaw01.WordsNumbers" = some f) (hfn : Tryd.pinned.checked.prog.funcs[f]? = some fn) :
    true = Tryd.pinned.checked.prog.looks [] ∧ ∀ (j : Nat) t, fn.params[j]? = some t → Tryd.pinned.checked.prog.wantsStandIn t = false := by
  obtain rfl : f = 10 := Option.some.inj ((show Tryd.prog.funcNamed "quintadena/quintadenalaw01.WordsNumbers" = some 10 by kernel_rfl).symm.trans hf) |>.symm
  obtain rfl : fn = Tryd.f10 := (Option.some.inj (Tryd.func10.symm.trans hfn)).symm
  refine ⟨by kernel_rfl, fun j t ht => ?_⟩
  rw [Tryd.params10] at ht
  have hm := Array.mem_of_getElem? ht
  simp only [List.mem_toArray, List.mem_cons, List.mem_nil_iff, or_false] at hm
  rcases hm with rfl | rfl
  · exact (show Tryd.prog.wantsStandIn 2 = false by kernel_rfl)
  · exact (show Tryd.prog.wantsStandIn 50 = false by kernel_rfl)

/-- THE CARD. -/
theorem wordsNumbers_card : Rows.WordsNumbersCardSaid :=
  Claim7.holds_tied_plain_at .later [] _ _ _ _ wordsNumbers_said (fun _ h => by cases h) (by kernel_rfl) (fun _ h => by cases h) wordsNumbers_row_tie rfl ⟨rfl, rfl⟩ (by kernel_rfl) rfl wordsNumbers_plain (by kernel_rfl)
end Go.Proofs.YtoclgcneclbfiaaDoor
