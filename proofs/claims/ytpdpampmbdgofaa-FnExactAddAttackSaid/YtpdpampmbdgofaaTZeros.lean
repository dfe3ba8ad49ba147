-- The words of the printed texts, cut down by trim.py to what these texts name. Lean checks them.
import Derived.Test.YtpdpampmbdgofaaTApart
import Derived.Test.YtpdpampmbdgofaaTArr
namespace Go.Proofs.YtpdpampmbdgofaaW.PrintWords
open Go.RowKit
namespace Kd
end Kd
end Go.Proofs.YtpdpampmbdgofaaW.PrintWords
