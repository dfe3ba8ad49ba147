-- The words of the printed texts, cut down by trim.py to what these texts name. Lean checks them.
import Derived.Test.YtpdpampmbdgofaaTWords
namespace Go.Proofs.YtpdpampmbdgofaaW.PrintWords
open Go.RowKit
end Go.Proofs.YtpdpampmbdgofaaW.PrintWords
