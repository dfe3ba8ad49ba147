-- The words of the printed texts, cut down by trim.py to what these texts name. Lean checks them.
import Derived.Test.YtelkfhlnejlheaaTTab
namespace Go.Proofs.YtelkfhlnejlheaaW.PrintLast
end Go.Proofs.YtelkfhlnejlheaaW.PrintLast
