-- The words of the printed texts, cut down by trim.py to what these texts name. Lean checks them.
import Derived.Test.YtpdpampmbdgofaaTInv
import Derived.Test.YtpdpampmbdgofaaTFootNe
namespace Go.Proofs.YtpdpampmbdgofaaW.PrintWords
open Go.RowKit
end Go.Proofs.YtpdpampmbdgofaaW.PrintWords
namespace Go.Proofs.YtpdpampmbdgofaaW.PrintLast
end Go.Proofs.YtpdpampmbdgofaaW.PrintLast
