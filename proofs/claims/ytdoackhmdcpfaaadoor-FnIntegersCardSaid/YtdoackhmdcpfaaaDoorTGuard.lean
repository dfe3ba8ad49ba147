-- The words of the printed texts, cut down by trim.py to what these texts name. Lean checks them.
import Derived.Test.YtdoackhmdcpfaaaDoorTWords
namespace Go.Proofs.YtdoackhmdcpfaaaDoorW.PrintWords
open Go.RowKit
end Go.Proofs.YtdoackhmdcpfaaaDoorW.PrintWords
