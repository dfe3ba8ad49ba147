-- The words of the printed texts, cut down by trim.py to what these texts name. Lean checks them.
import Derived.Test.YtdoackhmdcpfaaaDoorTInv
import Derived.Test.YtdoackhmdcpfaaaDoorTFootNe
namespace Go.Proofs.YtdoackhmdcpfaaaDoorW.PrintWords
open Go.RowKit
end Go.Proofs.YtdoackhmdcpfaaaDoorW.PrintWords
namespace Go.Proofs.YtdoackhmdcpfaaaDoorW.PrintLast
end Go.Proofs.YtdoackhmdcpfaaaDoorW.PrintLast
