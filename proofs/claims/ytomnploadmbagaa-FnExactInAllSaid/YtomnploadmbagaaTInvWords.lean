-- The words of the printed texts, cut down by trim.py to what these texts name. Lean checks them.
import Derived.Test.YtomnploadmbagaaTInv
import Derived.Test.YtomnploadmbagaaTFootNe
namespace Go.Proofs.YtomnploadmbagaaW.PrintWords
open Go.RowKit
end Go.Proofs.YtomnploadmbagaaW.PrintWords
namespace Go.Proofs.YtomnploadmbagaaW.PrintLast
end Go.Proofs.YtomnploadmbagaaW.PrintLast
