-- Laid by wip/xprint (a turned scratch copy of the kit's print): this session's text; Lean checks it.
import Derived.Test.YthgjbmmclbpkeaaProg
import Derived.Below
import Derived.Deep.Draws
import Derived.Deep.AppendLies
import Derived.Maps.AppendAt
import Derived.OwnWalk
import Derived.Laws.BytesArg
import Derived.Laws.MakeOwn
import Derived.Laws.OwnMore
import Derived.Deep.OwnRows
import Derived.Tactics
import Derived.Lib.ConvBytes
import Derived.Laws.Slices
import Derived.WalkKit
import Derived.KernelRfl
import Derived.RowKit3
import Derived.Deep.LoopGhost
import Derived.Deep.QuietTactic
import Derived.BigQuiet
import Derived.WideLaws
import Derived.Deep.DeepCutAuto
import Derived.Deep.CutBlock
import Derived.Deep.RegionHeld3
import Derived.Laws.Rows
import Derived.Lib.AppendStr
import Derived.ArgAppend
import Derived.Laws.IdiomCopy
import Derived.OrdersHeld
import Derived.Laws.BitsLemmas
import Derived.RowKit
import Derived.Test.YthgjbmmclbpkeaaWWords
import Derived.Test.YthgjbmmclbpkeaaWLast
import Derived.Test.YthgjbmmclbpkeaaWTab
import Derived.Test.YthgjbmmclbpkeaaWFour
import Derived.Test.YthgjbmmclbpkeaaWQPut
import Derived.Test.YthgjbmmclbpkeaaWApart
import Derived.Test.YthgjbmmclbpkeaaWArr
import Derived.Test.YthgjbmmclbpkeaaWZeros
import Derived.Test.YthgjbmmclbpkeaaWFoot
import Derived.Test.YthgjbmmclbpkeaaWKept
import Derived.Test.YthgjbmmclbpkeaaWShare
import Derived.Test.YthgjbmmclbpkeaaWN
import Derived.Test.YthgjbmmclbpkeaaWFootNe
import Derived.Test.YthgjbmmclbpkeaaWAt
import Derived.Test.YthgjbmmclbpkeaaWEqStruct
import Derived.Test.YthgjbmmclbpkeaaWRepsOne
import Derived.Test.YthgjbmmclbpkeaaWInv
import Derived.Test.YthgjbmmclbpkeaaWInvWords
import Derived.Test.YthgjbmmclbpkeaaWGuard
import Derived.Test.YthgjbmmclbpkeaaWNEv
import Derived.Test.YthgjbmmclbpkeaaWMore
import Derived.Test.YthgjbmmclbpkeaaXWords
namespace Go.Proofs.Ythgjbmmclbpkeaa.PNumSums
open Go.RowKit Go.Proofs.YthgjbmmclbpkeaaW.PrintWords Go.Proofs.YthgjbmmclbpkeaaW.PrintLast Go.Proofs.YthgjbmmclbpkeaaW.PrintMore
attribute [local go_sem] max2_int min2_int max_two min_two max_three min_three max_four min_four   -- for this text's walks alone
set_option linter.unusedVariables false
set_option linter.unusedSimpArgs false



def errW : Option Int → Value
  | none => .nilIface
  | some c => .iface 0 (.int .i64 c)
theorem errW_none : errW none = .nilIface := rfl
theorem errW_some (c : Int) : errW (some c) = .iface 0 (.int .i64 c) := rfl

theorem info3 : (Try.prog.info? 3).map (fun i => (i.zero, i.size, i.bytes)) = some (some (.int .i64 0), 1, 8) := by kernel_rfl
-- the values' own types

end Go.Proofs.Ythgjbmmclbpkeaa.PNumSums
