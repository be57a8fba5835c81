-- Laid by a program of this session (wip/myprint.py, over the kit's print.py): a walk of the code and what it computes.
import Derived.Test.YtebgkamefapfcaaProg
import Derived.Below
import Derived.Deep.Draws
import Derived.Deep.AppendLies
import Derived.Maps.AppendAt
import Derived.OwnWalk
import Derived.Laws.BytesArg
import Derived.Laws.MakeOwn
import Derived.Laws.OwnMore
import Derived.Deep.OwnRows
import Derived.Tactics
import Derived.Lib.ConvBytes
import Derived.Laws.Slices
import Derived.WalkKit
import Derived.KernelRfl
import Derived.RowKit3
import Derived.Deep.LoopGhost
import Derived.Deep.QuietTactic
import Derived.BigQuiet
import Derived.WideLaws
import Derived.Deep.DeepCutAuto
import Derived.Deep.CutBlock
import Derived.Deep.RegionHeld3
import Derived.Laws.Rows
import Derived.Lib.AppendStr
import Derived.ArgAppend
import Derived.Laws.IdiomCopy
import Derived.OrdersHeld
import Derived.Laws.BitsLemmas
import Derived.RowKit
import Derived.Test.YtebgkamefapfcaaShLen64
import Derived.Test.YtebgkamefapfcaaWWords
import Derived.Test.YtebgkamefapfcaaWLast
import Derived.Test.YtebgkamefapfcaaWTab
import Derived.Test.YtebgkamefapfcaaWFour
import Derived.Test.YtebgkamefapfcaaWQPut
import Derived.Test.YtebgkamefapfcaaWApart
import Derived.Test.YtebgkamefapfcaaWArr
import Derived.Test.YtebgkamefapfcaaWZeros
import Derived.Test.YtebgkamefapfcaaWFoot
import Derived.Test.YtebgkamefapfcaaWKept
import Derived.Test.YtebgkamefapfcaaWShare
import Derived.Test.YtebgkamefapfcaaWN
import Derived.Test.YtebgkamefapfcaaWFootNe
import Derived.Test.YtebgkamefapfcaaWAt
import Derived.Test.YtebgkamefapfcaaWEqStruct
import Derived.Test.YtebgkamefapfcaaWRepsOne
import Derived.Test.YtebgkamefapfcaaWInv
import Derived.Test.YtebgkamefapfcaaWInvWords
import Derived.Test.YtebgkamefapfcaaWGuard
import Derived.Test.YtebgkamefapfcaaWNEv
import Derived.Test.YtebgkamefapfcaaWMore
namespace Go.Proofs.Ytebgkamefapfcaa.QArithParts
open Go.RowKit Go.Proofs.YtebgkamefapfcaaW.PrintWords Go.Proofs.YtebgkamefapfcaaW.PrintLast Go.Proofs.YtebgkamefapfcaaW.PrintMore
attribute [local go_sem] max2_int min2_int max_two min_two max_three min_three max_four min_four   -- for this text's walks alone
set_option linter.unusedVariables false
set_option linter.unusedSimpArgs false



def errW : Option Int → Value
  | none => .nilIface
  | some c => .iface 0 (.int .i64 c)
theorem errW_none : errW none = .nilIface := rfl
theorem errW_some (c : Int) : errW (some c) = .iface 0 (.int .i64 c) := rfl

-- the values' own types

end Go.Proofs.Ytebgkamefapfcaa.QArithParts
