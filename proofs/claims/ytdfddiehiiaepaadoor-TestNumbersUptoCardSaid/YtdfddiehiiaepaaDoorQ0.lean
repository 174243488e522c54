-- Written by a program of this session (xprint.py) out of the translation.
import Derived.Test.YtdfddiehiiaepaaDoorProg
import Derived.Below
import Derived.Deep.Draws
import Derived.Deep.AppendLies
import Derived.Maps.AppendAt
import Derived.OwnWalk
import Derived.Laws.BytesArg
import Derived.Laws.MakeOwn
import Derived.Laws.OwnMore
import Derived.Deep.OwnRows
import Derived.Tactics
import Derived.Lib.ConvBytes
import Derived.Laws.Slices
import Derived.WalkKit
import Derived.KernelRfl
import Derived.RowKit3
import Derived.Deep.LoopGhost
import Derived.Deep.QuietTactic
import Derived.BigQuiet
import Derived.WideLaws
import Derived.Deep.DeepCutAuto
import Derived.Deep.CutBlock
import Derived.Deep.RegionHeld3
import Derived.Laws.Rows
import Derived.Lib.AppendStr
import Derived.ArgAppend
import Derived.Laws.IdiomCopy
import Derived.OrdersHeld
import Derived.Laws.BitsLemmas
import Derived.RowKit
import Derived.Test.YtdfddiehiiaepaaDoorWWords
import Derived.Test.YtdfddiehiiaepaaDoorWLast
import Derived.Test.YtdfddiehiiaepaaDoorWTab
import Derived.Test.YtdfddiehiiaepaaDoorWFour
import Derived.Test.YtdfddiehiiaepaaDoorWQPut
import Derived.Test.YtdfddiehiiaepaaDoorWApart
import Derived.Test.YtdfddiehiiaepaaDoorWArr
import Derived.Test.YtdfddiehiiaepaaDoorWZeros
import Derived.Test.YtdfddiehiiaepaaDoorWFoot
import Derived.Test.YtdfddiehiiaepaaDoorWKept
import Derived.Test.YtdfddiehiiaepaaDoorWShare
import Derived.Test.YtdfddiehiiaepaaDoorWN
import Derived.Test.YtdfddiehiiaepaaDoorWFootNe
import Derived.Test.YtdfddiehiiaepaaDoorWAt
import Derived.Test.YtdfddiehiiaepaaDoorWEqStruct
import Derived.Test.YtdfddiehiiaepaaDoorWRepsOne
import Derived.Test.YtdfddiehiiaepaaDoorWInv
import Derived.Test.YtdfddiehiiaepaaDoorWInvWords
import Derived.Test.YtdfddiehiiaepaaDoorWGuard
import Derived.Test.YtdfddiehiiaepaaDoorWNEv
import Derived.Test.YtdfddiehiiaepaaDoorWMore
namespace Go.Proofs.YtdfddiehiiaepaaDoor.Q
open Go.RowKit Go.Proofs.YtdfddiehiiaepaaDoorW.PrintWords Go.Proofs.YtdfddiehiiaepaaDoorW.PrintLast Go.Proofs.YtdfddiehiiaepaaDoorW.PrintMore
attribute [local go_sem] max2_int min2_int max_two min_two max_three min_three max_four min_four   -- for this text's walks alone
set_option linter.unusedVariables false
set_option linter.unusedSimpArgs false



def errW : Option Int → Value
  | none => .nilIface
  | some c => .iface 0 (.int .i64 c)
theorem errW_none : errW none = .nilIface := rfl
theorem errW_some (c : Int) : errW (some c) = .iface 0 (.int .i64 c) := rfl

-- the values' own types

end Go.Proofs.YtdfddiehiiaepaaDoor.Q
