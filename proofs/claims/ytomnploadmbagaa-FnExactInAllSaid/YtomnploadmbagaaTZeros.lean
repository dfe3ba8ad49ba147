-- The words of the printed texts, cut down by trim.py to what these texts name. Lean checks them.
import Derived.Test.YtomnploadmbagaaTApart
import Derived.Test.YtomnploadmbagaaTArr
namespace Go.Proofs.YtomnploadmbagaaW.PrintWords
open Go.RowKit
namespace Kd
end Kd
end Go.Proofs.YtomnploadmbagaaW.PrintWords
