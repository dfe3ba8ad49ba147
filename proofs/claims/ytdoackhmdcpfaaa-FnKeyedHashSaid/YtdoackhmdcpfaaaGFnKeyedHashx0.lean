-- Written by gprint.py, a program of this session, with the printer of the kit as its library. Lean checks it.
import Derived.Test.YtdoackhmdcpfaaaProg
import Derived.Below
import Derived.Deep.Draws
import Derived.Deep.AppendLies
import Derived.Maps.AppendAt
import Derived.OwnWalk
import Derived.Laws.BytesArg
import Derived.Laws.MakeOwn
import Derived.Laws.OwnMore
import Derived.Deep.OwnRows
import Derived.Tactics
import Derived.Lib.ConvBytes
import Derived.Laws.Slices
import Derived.WalkKit
import Derived.KernelRfl
import Derived.RowKit3
import Derived.Deep.LoopGhost
import Derived.Deep.QuietTactic
import Derived.BigQuiet
import Derived.WideLaws
import Derived.Deep.DeepCutAuto
import Derived.Deep.CutBlock
import Derived.Deep.RegionHeld3
import Derived.Laws.Rows
import Derived.Lib.AppendStr
import Derived.ArgAppend
import Derived.Laws.IdiomCopy
import Derived.OrdersHeld
import Derived.Laws.BitsLemmas
import Derived.RowKit
import Derived.Test.YtdoackhmdcpfaaaWWords
import Derived.Test.YtdoackhmdcpfaaaWLast
import Derived.Test.YtdoackhmdcpfaaaWTab
import Derived.Test.YtdoackhmdcpfaaaWFour
import Derived.Test.YtdoackhmdcpfaaaWQPut
import Derived.Test.YtdoackhmdcpfaaaWApart
import Derived.Test.YtdoackhmdcpfaaaWArr
import Derived.Test.YtdoackhmdcpfaaaWZeros
import Derived.Test.YtdoackhmdcpfaaaWFoot
import Derived.Test.YtdoackhmdcpfaaaWKept
import Derived.Test.YtdoackhmdcpfaaaWShare
import Derived.Test.YtdoackhmdcpfaaaWN
import Derived.Test.YtdoackhmdcpfaaaWFootNe
import Derived.Test.YtdoackhmdcpfaaaWAt
import Derived.Test.YtdoackhmdcpfaaaWEqStruct
import Derived.Test.YtdoackhmdcpfaaaWRepsOne
import Derived.Test.YtdoackhmdcpfaaaWInv
import Derived.Test.YtdoackhmdcpfaaaWInvWords
import Derived.Test.YtdoackhmdcpfaaaWGuard
import Derived.Test.YtdoackhmdcpfaaaWNEv
import Derived.Test.YtdoackhmdcpfaaaWMore
namespace Go.Proofs.Ytdoackhmdcpfaaa.GFnKeyedHash
open Go.RowKit Go.Proofs.YtdoackhmdcpfaaaW.PrintWords Go.Proofs.YtdoackhmdcpfaaaW.PrintLast Go.Proofs.YtdoackhmdcpfaaaW.PrintMore
attribute [local go_sem] max2_int min2_int max_two min_two max_three min_three max_four min_four   -- for this text's walks alone
set_option linter.unusedVariables false
set_option linter.unusedSimpArgs false



def errW : Option Int → Value
  | none => .nilIface
  | some c => .iface 0 (.int .i64 c)
theorem errW_none : errW none = .nilIface := rfl
theorem errW_some (c : Int) : errW (some c) = .iface 0 (.int .i64 c) := rfl

theorem info3 : (Try.prog.info? 3).map (fun i => (i.zero, i.size, i.bytes)) = some (some (.int .i64 0), 1, 8) := by kernel_rfl
theorem info9 : (Try.prog.info? 9).map (fun i => (i.zero, i.size, i.bytes)) = some (some (.string ⟨#[]⟩), 1, 16) := by kernel_rfl
-- the values' own types

end Go.Proofs.Ytdoackhmdcpfaaa.GFnKeyedHash
