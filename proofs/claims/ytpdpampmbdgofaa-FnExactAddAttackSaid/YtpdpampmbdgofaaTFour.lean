-- The words of the printed texts, cut down by trim.py to what these texts name. Lean checks them.
import Derived.Test.YtpdpampmbdgofaaTTab
namespace Go.Proofs.YtpdpampmbdgofaaW.PrintLast
end Go.Proofs.YtpdpampmbdgofaaW.PrintLast
