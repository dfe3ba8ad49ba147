-- The words of the printed texts, cut down by trim.py to what these texts name. Lean checks them.
import Derived.Test.YtelkfhlnejlheaaTFootNe
namespace Go.Proofs.YtelkfhlnejlheaaW.PrintWords
open Go.RowKit
namespace Kd
end Kd
end Go.Proofs.YtelkfhlnejlheaaW.PrintWords
