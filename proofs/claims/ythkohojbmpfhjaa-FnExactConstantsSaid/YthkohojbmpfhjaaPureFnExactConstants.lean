/- Every exported constant of the program has its value. Conditions: none. -/
import Derived.Test.YthkohojbmpfhjaaPFnExactConstantsx1
import Derived.OpenShut
namespace Go.Proofs.Ythkohojbmpfhjaa.Pure
open Go.RowKit Go.Proofs.Ythkohojbmpfhjaa.PFnExactConstants Go.Proofs.YthkohojbmpfhjaaW.PrintWords Go.Proofs.YthkohojbmpfhjaaW.PrintLast
theorem FnExactConstants : laws_FnExactConstants.Pure := rfl
end Go.Proofs.Ythkohojbmpfhjaa.Pure
