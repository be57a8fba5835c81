-- Laid by a program of this session (wip/myprint.py, over the kit's print.py): a walk of the code and what it computes.
import Derived.Test.YtbkngofbedgecaaProg
import Derived.Below
import Derived.Deep.Draws
import Derived.Deep.AppendLies
import Derived.Maps.AppendAt
import Derived.OwnWalk
import Derived.Laws.BytesArg
import Derived.Laws.MakeOwn
import Derived.Laws.OwnMore
import Derived.Deep.OwnRows
import Derived.Tactics
import Derived.Lib.ConvBytes
import Derived.Laws.Slices
import Derived.WalkKit
import Derived.KernelRfl
import Derived.RowKit3
import Derived.Deep.LoopGhost
import Derived.Deep.QuietTactic
import Derived.BigQuiet
import Derived.WideLaws
import Derived.Deep.DeepCutAuto
import Derived.Deep.CutBlock
import Derived.Deep.RegionHeld3
import Derived.Laws.Rows
import Derived.Lib.AppendStr
import Derived.ArgAppend
import Derived.Laws.IdiomCopy
import Derived.OrdersHeld
import Derived.Laws.BitsLemmas
import Derived.RowKit
import Derived.Test.YtbkngofbedgecaaWWords
import Derived.Test.YtbkngofbedgecaaWLast
import Derived.Test.YtbkngofbedgecaaWTab
import Derived.Test.YtbkngofbedgecaaWFour
import Derived.Test.YtbkngofbedgecaaWQPut
import Derived.Test.YtbkngofbedgecaaWApart
import Derived.Test.YtbkngofbedgecaaWArr
import Derived.Test.YtbkngofbedgecaaWZeros
import Derived.Test.YtbkngofbedgecaaWFoot
import Derived.Test.YtbkngofbedgecaaWKept
import Derived.Test.YtbkngofbedgecaaWShare
import Derived.Test.YtbkngofbedgecaaWN
import Derived.Test.YtbkngofbedgecaaWFootNe
import Derived.Test.YtbkngofbedgecaaWAt
import Derived.Test.YtbkngofbedgecaaWEqStruct
import Derived.Test.YtbkngofbedgecaaWRepsOne
import Derived.Test.YtbkngofbedgecaaWInv
import Derived.Test.YtbkngofbedgecaaWInvWords
import Derived.Test.YtbkngofbedgecaaWGuard
import Derived.Test.YtbkngofbedgecaaWNEv
import Derived.Test.YtbkngofbedgecaaWMore
namespace Go.Proofs.Ytbkngofbedgecaa.QClockRuns
open Go.RowKit Go.Proofs.YtbkngofbedgecaaW.PrintWords Go.Proofs.YtbkngofbedgecaaW.PrintLast Go.Proofs.YtbkngofbedgecaaW.PrintMore
attribute [local go_sem] max2_int min2_int max_two min_two max_three min_three max_four min_four   -- for this text's walks alone
set_option linter.unusedVariables false
set_option linter.unusedSimpArgs false



def errW : Option Int → Value
  | none => .nilIface
  | some c => .iface 0 (.int .i64 c)
theorem errW_none : errW none = .nilIface := rfl
theorem errW_some (c : Int) : errW (some c) = .iface 0 (.int .i64 c) := rfl

-- the values' own types

end Go.Proofs.Ytbkngofbedgecaa.QClockRuns
