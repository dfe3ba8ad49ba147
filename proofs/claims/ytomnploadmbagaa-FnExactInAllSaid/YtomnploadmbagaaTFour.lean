-- The words of the printed texts, cut down by trim.py to what these texts name. Lean checks them.
import Derived.Test.YtomnploadmbagaaTTab
namespace Go.Proofs.YtomnploadmbagaaW.PrintLast
end Go.Proofs.YtomnploadmbagaaW.PrintLast
