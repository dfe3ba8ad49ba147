/- The program's InRange answers as the reference's does, for all three integers. Conditions: none. -/
import Derived.Test.YthkohojbmpfhjaaPFnExactInRangex1
import Derived.OpenShut
namespace Go.Proofs.Ythkohojbmpfhjaa.Pure
open Go.RowKit Go.Proofs.Ythkohojbmpfhjaa.PFnExactInRange Go.Proofs.YthkohojbmpfhjaaW.PrintWords Go.Proofs.YthkohojbmpfhjaaW.PrintLast
theorem FnExactInRange : laws_FnExactInRange.Pure := by
  intro a b c _ _ _
  unfold laws_FnExactInRange.f spec_InRange.f impl_InRange.f
  by_cases h : b ≤ a <;> simp [h]
end Go.Proofs.Ythkohojbmpfhjaa.Pure
