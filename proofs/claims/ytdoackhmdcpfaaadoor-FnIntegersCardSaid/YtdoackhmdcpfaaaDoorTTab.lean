-- The words of the printed texts, cut down by trim.py to what these texts name. Lean checks them.
import Derived.Test.YtdoackhmdcpfaaaDoorTLast
import Derived.Test.YtdoackhmdcpfaaaDoorTWords
namespace Go.Proofs.YtdoackhmdcpfaaaDoorW.PrintLast
open Go.Proofs.YtdoackhmdcpfaaaDoorW.PrintWords (Aside0)
end Go.Proofs.YtdoackhmdcpfaaaDoorW.PrintLast
