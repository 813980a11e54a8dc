-- Written by wip/print2.sh of this repo (a patched copy of the kit's print, with contracts proved by hand).
import Derived.Test.YtdhiaagjbdbnhaaProg
import Derived.Below
import Derived.Deep.Draws
import Derived.Deep.AppendLies
import Derived.Maps.AppendAt
import Derived.OwnWalk
import Derived.Laws.BytesArg
import Derived.Laws.MakeOwn
import Derived.Laws.OwnMore
import Derived.Deep.OwnRows
import Derived.Tactics
import Derived.Lib.ConvBytes
import Derived.Laws.Slices
import Derived.WalkKit
import Derived.KernelRfl
import Derived.RowKit3
import Derived.Deep.LoopGhost
import Derived.Deep.QuietTactic
import Derived.BigQuiet
import Derived.WideLaws
import Derived.Deep.DeepCutAuto
import Derived.Deep.CutBlock
import Derived.Deep.RegionHeld3
import Derived.Laws.Rows
import Derived.Lib.AppendStr
import Derived.ArgAppend
import Derived.Laws.IdiomCopy
import Derived.OrdersHeld
import Derived.Laws.BitsLemmas
import Derived.RowKit
import Derived.Test.YtdhiaagjbdbnhaaWWords
import Derived.Test.YtdhiaagjbdbnhaaWLast
import Derived.Test.YtdhiaagjbdbnhaaWTab
import Derived.Test.YtdhiaagjbdbnhaaWFour
import Derived.Test.YtdhiaagjbdbnhaaWQPut
import Derived.Test.YtdhiaagjbdbnhaaWApart
import Derived.Test.YtdhiaagjbdbnhaaWArr
import Derived.Test.YtdhiaagjbdbnhaaWZeros
import Derived.Test.YtdhiaagjbdbnhaaWFoot
import Derived.Test.YtdhiaagjbdbnhaaWKept
import Derived.Test.YtdhiaagjbdbnhaaWShare
import Derived.Test.YtdhiaagjbdbnhaaWN
import Derived.Test.YtdhiaagjbdbnhaaWFootNe
import Derived.Test.YtdhiaagjbdbnhaaWAt
import Derived.Test.YtdhiaagjbdbnhaaWEqStruct
import Derived.Test.YtdhiaagjbdbnhaaWRepsOne
import Derived.Test.YtdhiaagjbdbnhaaWInv
import Derived.Test.YtdhiaagjbdbnhaaWInvWords
import Derived.Test.YtdhiaagjbdbnhaaWGuard
import Derived.Test.YtdhiaagjbdbnhaaWNEv
import Derived.Test.YtdhiaagjbdbnhaaWMore
namespace Go.Proofs.Ytdhiaagjbdbnhaa.PZParts
open Go.RowKit Go.Proofs.YtdhiaagjbdbnhaaW.PrintWords Go.Proofs.YtdhiaagjbdbnhaaW.PrintLast Go.Proofs.YtdhiaagjbdbnhaaW.PrintMore
attribute [local go_sem] max2_int min2_int max_two min_two max_three min_three max_four min_four   -- for this text's walks alone
set_option linter.unusedVariables false
set_option linter.unusedSimpArgs false



def errW : Option Int → Value
  | none => .nilIface
  | some c => .iface 0 (.int .i64 c)
theorem errW_none : errW none = .nilIface := rfl
theorem errW_some (c : Int) : errW (some c) = .iface 0 (.int .i64 c) := rfl

-- the values' own types

end Go.Proofs.Ytdhiaagjbdbnhaa.PZParts
