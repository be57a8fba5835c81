-- Laid by a program of this session (wip/myprint.py, over the kit's print.py): a walk of the code and what it computes.
import Derived.Test.YtdnimnlnicnjnaaProg
import Derived.Below
import Derived.Deep.Draws
import Derived.Deep.AppendLies
import Derived.Maps.AppendAt
import Derived.OwnWalk
import Derived.Laws.BytesArg
import Derived.Laws.MakeOwn
import Derived.Laws.OwnMore
import Derived.Deep.OwnRows
import Derived.Tactics
import Derived.Lib.ConvBytes
import Derived.Laws.Slices
import Derived.WalkKit
import Derived.KernelRfl
import Derived.RowKit3
import Derived.Deep.LoopGhost
import Derived.Deep.QuietTactic
import Derived.BigQuiet
import Derived.WideLaws
import Derived.Deep.DeepCutAuto
import Derived.Deep.CutBlock
import Derived.Deep.RegionHeld3
import Derived.Laws.Rows
import Derived.Lib.AppendStr
import Derived.ArgAppend
import Derived.Laws.IdiomCopy
import Derived.OrdersHeld
import Derived.Laws.BitsLemmas
import Derived.RowKit
import Derived.Test.YtdnimnlnicnjnaaWWords
import Derived.Test.YtdnimnlnicnjnaaWLast
import Derived.Test.YtdnimnlnicnjnaaWTab
import Derived.Test.YtdnimnlnicnjnaaWFour
import Derived.Test.YtdnimnlnicnjnaaWQPut
import Derived.Test.YtdnimnlnicnjnaaWApart
import Derived.Test.YtdnimnlnicnjnaaWArr
import Derived.Test.YtdnimnlnicnjnaaWZeros
import Derived.Test.YtdnimnlnicnjnaaWFoot
import Derived.Test.YtdnimnlnicnjnaaWKept
import Derived.Test.YtdnimnlnicnjnaaWShare
import Derived.Test.YtdnimnlnicnjnaaWN
import Derived.Test.YtdnimnlnicnjnaaWFootNe
import Derived.Test.YtdnimnlnicnjnaaWAt
import Derived.Test.YtdnimnlnicnjnaaWEqStruct
import Derived.Test.YtdnimnlnicnjnaaWRepsOne
import Derived.Test.YtdnimnlnicnjnaaWInv
import Derived.Test.YtdnimnlnicnjnaaWInvWords
import Derived.Test.YtdnimnlnicnjnaaWGuard
import Derived.Test.YtdnimnlnicnjnaaWNEv
import Derived.Test.YtdnimnlnicnjnaaWMore
namespace Go.Proofs.Ytdnimnlnicnjnaa.QCellUnits
open Go.RowKit Go.Proofs.YtdnimnlnicnjnaaW.PrintWords Go.Proofs.YtdnimnlnicnjnaaW.PrintLast Go.Proofs.YtdnimnlnicnjnaaW.PrintMore
attribute [local go_sem] max2_int min2_int max_two min_two max_three min_three max_four min_four   -- for this text's walks alone
set_option linter.unusedVariables false
set_option linter.unusedSimpArgs false



def errW : Option Int → Value
  | none => .nilIface
  | some c => .iface 0 (.int .i64 c)
theorem errW_none : errW none = .nilIface := rfl
theorem errW_some (c : Int) : errW (some c) = .iface 0 (.int .i64 c) := rfl

-- the values' own types

end Go.Proofs.Ytdnimnlnicnjnaa.QCellUnits
