/- The program's IsValidKey answers as the reference's does, for all integers. Conditions: none. -/
import Derived.Test.YthkohojbmpfhjaaPFnExactIsValidKeyx1
import Derived.OpenShut
namespace Go.Proofs.Ythkohojbmpfhjaa.Pure
open Go.RowKit Go.Proofs.Ythkohojbmpfhjaa.PFnExactIsValidKey Go.Proofs.YthkohojbmpfhjaaW.PrintWords Go.Proofs.YthkohojbmpfhjaaW.PrintLast
theorem FnExactIsValidKey : laws_FnExactIsValidKey.Pure := by
  intro a _
  unfold laws_FnExactIsValidKey.f spec_IsValidKey.f impl_IsValidKey.f spec_l1In.f impl_InRange.f
  by_cases h : 1 ≤ a <;> simp [h]
end Go.Proofs.Ythkohojbmpfhjaa.Pure
