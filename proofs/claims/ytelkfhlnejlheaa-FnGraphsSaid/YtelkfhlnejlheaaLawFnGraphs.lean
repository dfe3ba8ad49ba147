/- An attack that is added is there both ways, and nothing else changes, for all inputs of the law. Conditions: none. (The row.) -/
import Derived.Test.YtelkfhlnejlheaaRows
import Derived.Test.YtelkfhlnejlheaaGFnGraphsx9
import Derived.Test.YtelkfhlnejlheaaPureFnGraphs
import Derived.WalkKit
import Derived.ProofKit
import Derived.OpenShut
import Derived.ShutString
import Derived.ChangeOld
import Derived.Below
import Derived.SizedLaws
import Derived.Test.YtelkfhlnejlheaaTSized
namespace Go.Proofs.Ytelkfhlnejlheaa.fnGraphs
open Go.ChangeShapes Go.WideShapes Go.ChangeAt Go.RowKit Go.Proofs.YtelkfhlnejlheaaW.PrintWords
open Go.ChangeMaps (open_string shut_string)
set_option linter.unusedVariables false
theorem own : ownKnob Try.prog.godebug = none := by kernel_rfl
theorem laidOut : laidOutB Try.prog = true := by kernel_rfl
set_option maxRecDepth 100000 in
theorem lifted (os : Os) (started : os.Started) (H : Type) (enc : TypeId × Value → H) :
    ReturnsInHanded {} Try.checked os 12 .any (Rows.fnGraphsSpec.pre6 enc Try.prog Try.f12 Rows.fnGraphsRow.domain false) (Rows.fnGraphsSpec.post enc Try.prog Try.f12 false true false false) := by
  refine returnsInHanded_of_change_sized (C := Try.checked) own started (by kernel_rfl) Try.func12
    (ChangeSpec.witness6 (enc := enc) (C := Try.checked) false ⟨#[], #[.slice none 0 0], []⟩ 8 (by kernel_rfl) (by kernel_rfl) (by kernel_rfl) (by kernel_rfl)) ?_
  intro W base args ds gs before hval0 hW hcnd hsz0 _
  have hsz : (DataW.weightsEach Try.prog (Try.f12.params.toList ++ Rows.fnGraphsSpec.plain.varTypes Try.prog) (ds ++ gs)).all (· ≤ reachBytes) = true := hsz0
  have hval : ∀ (j : Nat) t v, Try.f12.params[j]? = some t → args[j]? = some v → Value.okWide Try.prog W .any base t v := hval0
  have hW' := hW
  obtain ⟨p, q, hA0, hV, rfl, hfz, hnd⟩ := hW
  have hA : DataW.TrodAll enc Try.prog W 0 (fun _ => true) true Try.f12.params.toList args.toList ds p := hA0
  rw [Try.params12] at hA hval hsz
  obtain ⟨v0, vs0, d0, ds0, p0, q0, hargs, rfl, rfl, h0, r0⟩ := trodAll_cons hA
  obtain ⟨rfl, rfl, rfl⟩ := trodAll_nil r0
  obtain rfl : args = #[v0] := by cases args; simp_all
  obtain ⟨rfl, rfl⟩ := trodVars_none hV
  obtain ⟨A0, len0, c0, rfl⟩ := okWide_slice Try.underlying42 (hval 0 42 v0 rfl rfl)
  have k0 := h0
  have lt0 : ∀ x ∈ p0, x.block < W.heap.size := by obtain ⟨m, hm⟩ := k0; exact DataW.trod_lt m _ _ _ hm
  have y0 : len0 * 1 ≤ 140737488351232 := sized_ints hsz (j := 0) (t := 42) rfl rfl Try.underlying42 Try.underlying5 (by kernel_rfl) (by kernel_rfl) h0
  obtain ⟨l0, rfl, hr0, hm0, hw0, hc0⟩ : ∃ l : List Int, len0 = l.length ∧ ReadsInt W .u8 A0 l.length l ∧ l.length ≤ maxLen ∧ (∀ x ∈ l, (Lit.int .u8 x).wf = true) ∧ l.length ≤ c0 := by
    obtain ⟨fuel, hf⟩ := h0
    rcases open_ints Try.underlying42 Try.underlying5 (by kernel_rfl) hf with ⟨hcs, _⟩ | ⟨x, l, c, zs, hcs, _, hl, hm, hz, _, hcell, hwz⟩
    · simp [Value.cells] at hcs
      obtain ⟨rfl, rfl, rfl⟩ := hcs
      exact ReadsInt.ofRowC (zs := []) (.inl ⟨rfl, rfl, rfl, rfl⟩)
    · simp [Value.cells] at hcs
      obtain ⟨rfl, rfl, rfl⟩ := hcs
      exact ReadsInt.ofRowC (zs := zs) (.inr ⟨_, rfl, hl, hm, by simpa using hz, hcell, hwz⟩)
  clear hA0 hval0 hsz0 hsz
  obtain ⟨k, h⟩ := Pure.FnGraphs l0 hm0 y0 hw0
  refine (GFnGraphs.laws_FnGraphs.calls k _ _ l0 true W (Kd.C_of_reads (d := (0 : Int)) (h1 := fun _ => rfl) hr0) hc0 h).mono ?_
  rintro e W' ⟨rfl, bel0⟩
  have bel : Below W.heap.size W W' := by first | exact bel0 | exact bel0.below
  exact ⟨_, rfl, _, _, _, [], _, [], hW', trodAll_mk1 (shut_bool Try.underlying4 _), (trodAll_cons_mk (Below.trod laidOut (by kernel_rfl) (of_decide_eq_true (by kernel_rfl)) k0 bel lt0) trodAll_mk0), rfl, bel.frame _, fun h => by cases h⟩
theorem clo : Try.prog.closure 12 = [12,  46,  47,  93,  115,  98,  99,  121,  116,  140,  143,  67,  85,  158,  122,  139,  48,  94,  117,  95,  118,  141,  96,  119,  120,  142,  157,  49,  97,  87,  50,  53,  84,  114,  52,  51,  54,  100,  123,  104,  24,  81,  113,  137,  138,  112,  128,  134,  129,  152,  130,  153,  154,  131,  155,  156,  162,  132,  133,  135,  136,  82,  55] := by kernel_rfl
theorem self : (Try.prog.closure 112).contains 112 = true := by kernel_rfl
theorem lead : (((Try.prog.funcs[112]?).elim [] Try.prog.leadsTo)).contains 112 = true := by kernel_rfl
theorem recT : Try.prog.recurses 12 = true := by
  unfold Program.recurses
  rw [clo, Bool.or_eq_true]
  exact .inr (List.any_eq_true.2 ⟨112, by decide, List.any_eq_true.2 ⟨112, List.mem_of_elem_eq_true lead, self⟩⟩)
set_option maxHeartbeats 20000000 in
theorem closed : joinedFacts Try.prog 12 Try.f12 Rows.fnGraphsSpec Rows.fnGraphsRow = true := by
  unfold joinedFacts Program.inPlace Program.unfollowed Program.varsNamed
  rw [recT, clo]
  simp only [Bool.and_eq_true]
  repeat' (with_reducible apply And.intro)
  all_goals (as_aux_lemma => kernel_rfl)
theorem over : Rows.fnGraphsRow.holds Try.pinned (OpenSpec.ofChange Rows.fnGraphsSpec) :=
  OpenClaim.holds_of_wide 12 Try.f12 rfl rfl rfl rfl rfl rfl rfl ⟨rfl, rfl, rfl, rfl, rfl⟩ rfl rfl rfl rfl rfl (by kernel_rfl) Try.func12 closed
    (of_decide_eq_true (by kernel_rfl)) (by unfold Func.isWrapper; first | (rw [if_pos (by decide +kernel)]; kernel_rfl) | (rw [if_neg (by decide +kernel)]; exact ⟨rfl, rfl⟩))
    (fun os started H enc _ => lifted os started H enc)
theorem proved : Rows.FnGraphsSaid := over
end Go.Proofs.Ytelkfhlnejlheaa.fnGraphs
namespace Go.Proofs.Ytelkfhlnejlheaa
/-- The row, under a short name, for the claim. -/
theorem fnGraphs_holds : Rows.FnGraphsSaid := fnGraphs.proved
end Go.Proofs.Ytelkfhlnejlheaa
