-- Written by a program of this session (wip/extprint.py), which runs the kit's print over contracts of our own.
import Derived.Test.YtgbihkljbpionaaDoorProg
import Derived.Below
import Derived.Deep.Draws
import Derived.Deep.AppendLies
import Derived.Maps.AppendAt
import Derived.OwnWalk
import Derived.Laws.BytesArg
import Derived.Laws.MakeOwn
import Derived.Laws.OwnMore
import Derived.Deep.OwnRows
import Derived.Tactics
import Derived.Lib.ConvBytes
import Derived.Laws.Slices
import Derived.WalkKit
import Derived.KernelRfl
import Derived.RowKit3
import Derived.Deep.LoopGhost
import Derived.Deep.QuietTactic
import Derived.BigQuiet
import Derived.WideLaws
import Derived.Deep.DeepCutAuto
import Derived.Deep.CutBlock
import Derived.Deep.RegionHeld3
import Derived.Laws.Rows
import Derived.Lib.AppendStr
import Derived.ArgAppend
import Derived.Laws.IdiomCopy
import Derived.OrdersHeld
import Derived.Laws.BitsLemmas
import Derived.RowKit
import Derived.Test.YtgbihkljbpionaaDoorWWords
import Derived.Test.YtgbihkljbpionaaDoorWLast
import Derived.Test.YtgbihkljbpionaaDoorWTab
import Derived.Test.YtgbihkljbpionaaDoorWFour
import Derived.Test.YtgbihkljbpionaaDoorWQPut
import Derived.Test.YtgbihkljbpionaaDoorWApart
import Derived.Test.YtgbihkljbpionaaDoorWArr
import Derived.Test.YtgbihkljbpionaaDoorWZeros
import Derived.Test.YtgbihkljbpionaaDoorWFoot
import Derived.Test.YtgbihkljbpionaaDoorWKept
import Derived.Test.YtgbihkljbpionaaDoorWShare
import Derived.Test.YtgbihkljbpionaaDoorWN
import Derived.Test.YtgbihkljbpionaaDoorWFootNe
import Derived.Test.YtgbihkljbpionaaDoorWAt
import Derived.Test.YtgbihkljbpionaaDoorWEqStruct
import Derived.Test.YtgbihkljbpionaaDoorWRepsOne
import Derived.Test.YtgbihkljbpionaaDoorWInv
import Derived.Test.YtgbihkljbpionaaDoorWInvWords
import Derived.Test.YtgbihkljbpionaaDoorWGuard
import Derived.Test.YtgbihkljbpionaaDoorWNEv
import Derived.Test.YtgbihkljbpionaaDoorWMore
namespace Go.Proofs.YtgbihkljbpionaaDoor.P
open Go.RowKit Go.Proofs.YtgbihkljbpionaaDoorW.PrintWords Go.Proofs.YtgbihkljbpionaaDoorW.PrintLast Go.Proofs.YtgbihkljbpionaaDoorW.PrintMore
attribute [local go_sem] max2_int min2_int max_two min_two max_three min_three max_four min_four   -- for this text's walks alone
set_option linter.unusedVariables false
set_option linter.unusedSimpArgs false



def errW : Option Int → Value
  | none => .nilIface
  | some c => .iface 0 (.int .i64 c)
theorem errW_none : errW none = .nilIface := rfl
theorem errW_some (c : Int) : errW (some c) = .iface 0 (.int .i64 c) := rfl

-- the values' own types

end Go.Proofs.YtgbihkljbpionaaDoor.P
