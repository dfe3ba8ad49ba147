/- The program's Min answers as the reference's does, for all two integers. Conditions: none. -/
import Derived.Test.YthkohojbmpfhjaaPFnExactMinx1
import Derived.OpenShut
namespace Go.Proofs.Ythkohojbmpfhjaa.Pure
open Go.RowKit Go.Proofs.Ythkohojbmpfhjaa.PFnExactMin Go.Proofs.YthkohojbmpfhjaaW.PrintWords Go.Proofs.YthkohojbmpfhjaaW.PrintLast
theorem FnExactMin : laws_FnExactMin.Pure := by
  intro a b _ _
  unfold laws_FnExactMin.f spec_Min.f impl_Min.f mn
  by_cases h : b < a
  · rw [if_pos h]; simp; omega
  · rw [if_neg h]; simp; omega
end Go.Proofs.Ythkohojbmpfhjaa.Pure
