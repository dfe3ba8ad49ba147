-- The words of the printed texts, cut down by trim.py to what these texts name. Lean checks them.
import Derived.Test.YtdoackhmdcpfaaaDoorTWords
import Derived.Test.YtdoackhmdcpfaaaDoorTLast
namespace Go.Proofs.YtdoackhmdcpfaaaDoorW.PrintWords
open Go.RowKit
namespace Kd
end Kd
end Go.Proofs.YtdoackhmdcpfaaaDoorW.PrintWords
