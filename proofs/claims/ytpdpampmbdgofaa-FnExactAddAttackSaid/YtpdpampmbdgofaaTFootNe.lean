-- The words of the printed texts, cut down by trim.py to what these texts name. Lean checks them.
import Derived.Test.YtpdpampmbdgofaaTN
namespace Go.Proofs.YtpdpampmbdgofaaW.PrintWords
open Go.RowKit
namespace Kd
end Kd
end Go.Proofs.YtpdpampmbdgofaaW.PrintWords
