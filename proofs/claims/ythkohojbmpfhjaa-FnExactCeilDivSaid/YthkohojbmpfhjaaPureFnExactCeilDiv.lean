/- The program's CeilDiv answers as the reference's does, for all two integers. Conditions: none. -/
import Derived.Test.YthkohojbmpfhjaaPFnExactCeilDivx1
import Derived.OpenShut
namespace Go.Proofs.Ythkohojbmpfhjaa.Pure
open Go.RowKit Go.Proofs.Ythkohojbmpfhjaa.PFnExactCeilDiv Go.Proofs.YthkohojbmpfhjaaW.PrintWords Go.Proofs.YthkohojbmpfhjaaW.PrintLast
theorem impl_InRange_eq (a b c : Int) : impl_InRange.f a b c = some (decide (b ≤ a ∧ a ≤ c)) := by
  unfold impl_InRange.f; by_cases h : b ≤ a <;> simp [h]
theorem spec_l1In_eq (a b c : Int) : spec_l1In.f a b c = some (decide (b ≤ a ∧ a ≤ c)) := by
  unfold spec_l1In.f; by_cases h : b ≤ a <;> simp [h]
theorem FnExactCeilDiv : laws_FnExactCeilDiv.Pure := by
  intro a b _ _
  have h : spec_CeilDiv.f a b = impl_CeilDiv.f a b := by
    unfold spec_CeilDiv.f impl_CeilDiv.f; simp only [spec_l1In_eq, impl_InRange_eq]
  have h2 : ∃ r, impl_CeilDiv.f a b = some r := by
    unfold impl_CeilDiv.f
    simp only [impl_InRange_eq, Option.bind_some]
    by_cases h1 : 0 ≤ a ∧ a ≤ 1000000000000
    · by_cases h2 : 1 ≤ b ∧ b ≤ 1000000000000
      · simp only [h1, h2, and_self, decide_true, if_true]
        rw [if_neg (by omega)]
        exact ⟨_, rfl⟩
      · simp [h1, h2]
    · simp [h1]
  obtain ⟨r, hr⟩ := h2
  unfold laws_FnExactCeilDiv.f
  simp [h, hr]
end Go.Proofs.Ythkohojbmpfhjaa.Pure
