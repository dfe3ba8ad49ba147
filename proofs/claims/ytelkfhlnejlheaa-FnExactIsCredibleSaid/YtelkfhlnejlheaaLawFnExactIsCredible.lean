/- The program's IsCredible answers as the reference's does, for all graphs and claims, and leaves its argument alone. Conditions: none. (The row.) -/
import Derived.Test.YtelkfhlnejlheaaRows
import Derived.Test.YtelkfhlnejlheaaGFnExactIsCrediblex12
import Derived.Test.YtelkfhlnejlheaaPureFnExactIsCredible
import Derived.WalkKit
import Derived.ProofKit
import Derived.OpenShut
import Derived.ShutString
import Derived.ChangeOld
import Derived.Below
import Derived.SizedLaws
import Derived.Test.YtelkfhlnejlheaaOpen
namespace Go.Proofs.Ytelkfhlnejlheaa.fnExactIsCredible
open Go.ChangeShapes Go.WideShapes Go.ChangeAt Go.RowKit Go.Proofs.YtelkfhlnejlheaaW.PrintWords
open Go.ChangeMaps (open_string shut_string)
set_option linter.unusedVariables false
theorem own : ownKnob Try.prog.godebug = none := by kernel_rfl
theorem laidOut : laidOutB Try.prog = true := by kernel_rfl
set_option maxRecDepth 100000 in
theorem lifted (os : Os) (started : os.Started) (H : Type) (enc : TypeId × Value → H) :
    ReturnsInHanded {} Try.checked os 18 .any (Rows.fnExactIsCredibleSpec.pre6 enc Try.prog Try.f18 Rows.fnExactIsCredibleRow.domain false) (Rows.fnExactIsCredibleSpec.post enc Try.prog Try.f18 false true false false) := by
  refine returnsInHanded_of_change_sized (C := Try.checked) own started (by kernel_rfl) Try.func18
    (ChangeSpec.witness6 (enc := enc) (C := Try.checked) false ⟨#[], #[.agg #[.int .i64 0, .slice none 0 0], .int .i64 0], []⟩ 8 (by kernel_rfl) (by kernel_rfl) (by kernel_rfl) (by kernel_rfl)) ?_
  intro W base args ds gs before hval0 hW hcnd hsz0 _
  have hsz : (DataW.weightsEach Try.prog (Try.f18.params.toList ++ Rows.fnExactIsCredibleSpec.plain.varTypes Try.prog) (ds ++ gs)).all (· ≤ reachBytes) = true := hsz0
  have hval : ∀ (j : Nat) t v, Try.f18.params[j]? = some t → args[j]? = some v → Value.okWide Try.prog W .any base t v := hval0
  have hW' := hW
  obtain ⟨p, q, hA0, hV, rfl, hfz, hnd⟩ := hW
  have hA : DataW.TrodAll enc Try.prog W 0 (fun _ => true) true Try.f18.params.toList args.toList ds p := hA0
  rw [Try.params18] at hA hval hsz
  obtain ⟨v0, vs0, d0, ds0, p0, q0, hargs, rfl, rfl, h0, r0⟩ := trodAll_cons hA
  obtain ⟨v1, vs1, d1, ds1, p1, q1, rfl, rfl, rfl, h1, r1⟩ := trodAll_cons r0
  obtain ⟨rfl, rfl, rfl⟩ := trodAll_nil r1
  obtain rfl : args = #[v0, v1] := by cases args; simp_all
  obtain ⟨rfl, rfl⟩ := trodVars_none hV
  have k0 := h0
  have lt0 : ∀ x ∈ p0, x.block < W.heap.size := by obtain ⟨m, hm⟩ := k0; exact DataW.trod_lt m _ _ _ hm
  obtain ⟨a0, A0, c0, l0, rfl, w0, hC0, hc0, hm0, hw0⟩ := Open.graph_open Try.underlying24 (by kernel_rfl) (by kernel_rfl) Try.underlying3 Try.underlying22 Try.underlying25 Try.underlying3 (by kernel_rfl) (by kernel_rfl) (hval 0 24 v0 rfl rfl) h0
  obtain ⟨a1, rfl, rfl, rfl, w1⟩ := open_int Try.underlying3 (hval 1 3 v1 rfl rfl) h1
  clear hA0 hval0 hsz0 hsz
  obtain ⟨k, h⟩ := Pure.FnExactIsCredible a0 l0 a1 w0 hm0 hw0 w1
  refine (GFnExactIsCredible.laws_FnExactIsCredible.calls k a0 _ _ l0 a1 true W hC0 hc0 h).mono ?_
  rintro e W' ⟨rfl, bel0⟩
  have bel : Below W.heap.size W W' := by first | exact bel0 | exact bel0.below
  exact ⟨_, rfl, _, _, _, [], _, [], hW', trodAll_mk1 (shut_bool Try.underlying4 _), (trodAll_cons_mk (Below.trod laidOut (by kernel_rfl) (of_decide_eq_true (by kernel_rfl)) k0 bel lt0) (trodAll_cons_mk (shut_int Try.underlying3 w1) trodAll_mk0)), rfl, bel.frame _, fun h => by cases h⟩
theorem clo : Try.prog.closure 18 = [18,  20,  78,  111,  22,  80,  23,  74,  107,  69,  67,  85,  42,  30,  21,  79,  83,  38,  34,  86,  91,  105,  125,  75,  109,  70,  49,  97,  87,  95,  118,  141,  43,  31,  57,  24,  53,  81,  113,  137,  138,  112,  128,  134,  129,  152,  130,  153,  154,  131,  155,  156,  162,  132,  133,  135,  136,  82,  84,  114,  39,  35,  52,  92,  106,  124,  144,  145,  159,  146,  147,  160,  161,  163,  148,  149,  150,  151,  126,  127,  108,  88,  110,  26,  71,  25] := by kernel_rfl
theorem self : (Try.prog.closure 112).contains 112 = true := by kernel_rfl
theorem lead : (((Try.prog.funcs[112]?).elim [] Try.prog.leadsTo)).contains 112 = true := by kernel_rfl
theorem recT : Try.prog.recurses 18 = true := by
  unfold Program.recurses
  rw [clo, Bool.or_eq_true]
  exact .inr (List.any_eq_true.2 ⟨112, by decide, List.any_eq_true.2 ⟨112, List.mem_of_elem_eq_true lead, self⟩⟩)
set_option maxHeartbeats 20000000 in
theorem closed : joinedFacts Try.prog 18 Try.f18 Rows.fnExactIsCredibleSpec Rows.fnExactIsCredibleRow = true := by
  unfold joinedFacts Program.inPlace Program.unfollowed Program.varsNamed
  rw [recT, clo]
  simp only [Bool.and_eq_true]
  repeat' (with_reducible apply And.intro)
  all_goals (as_aux_lemma => kernel_rfl)
theorem over : Rows.fnExactIsCredibleRow.holds Try.pinned (OpenSpec.ofChange Rows.fnExactIsCredibleSpec) :=
  OpenClaim.holds_of_wide 18 Try.f18 rfl rfl rfl rfl rfl rfl rfl ⟨rfl, rfl, rfl, rfl, rfl⟩ rfl rfl rfl rfl rfl (by kernel_rfl) Try.func18 closed
    (of_decide_eq_true (by kernel_rfl)) (by unfold Func.isWrapper; first | (rw [if_pos (by decide +kernel)]; kernel_rfl) | (rw [if_neg (by decide +kernel)]; exact ⟨rfl, rfl⟩))
    (fun os started H enc _ => lifted os started H enc)
theorem proved : Rows.FnExactIsCredibleSaid := over
end Go.Proofs.Ytelkfhlnejlheaa.fnExactIsCredible
namespace Go.Proofs.Ytelkfhlnejlheaa
/-- The row, under a short name, for the claim. -/
theorem fnExactIsCredible_holds : Rows.FnExactIsCredibleSaid := fnExactIsCredible.proved
end Go.Proofs.Ytelkfhlnejlheaa
