-- The words of the printed texts, cut down by trim.py to what these texts name. Lean checks them.
import Derived.Test.YtdoackhmdcpfaaaDoorTTab
namespace Go.Proofs.YtdoackhmdcpfaaaDoorW.PrintLast
end Go.Proofs.YtdoackhmdcpfaaaDoorW.PrintLast
