-- Written by a program of this session (xprint.py) out of the translation.
import Derived.Test.YteobnfcdlcemlaaDoorProg
import Derived.Below
import Derived.Deep.Draws
import Derived.Deep.AppendLies
import Derived.Maps.AppendAt
import Derived.OwnWalk
import Derived.Laws.BytesArg
import Derived.Laws.MakeOwn
import Derived.Laws.OwnMore
import Derived.Deep.OwnRows
import Derived.Tactics
import Derived.Lib.ConvBytes
import Derived.Laws.Slices
import Derived.WalkKit
import Derived.KernelRfl
import Derived.RowKit3
import Derived.Deep.LoopGhost
import Derived.Deep.QuietTactic
import Derived.BigQuiet
import Derived.WideLaws
import Derived.Deep.DeepCutAuto
import Derived.Deep.CutBlock
import Derived.Deep.RegionHeld3
import Derived.Laws.Rows
import Derived.Lib.AppendStr
import Derived.ArgAppend
import Derived.Laws.IdiomCopy
import Derived.OrdersHeld
import Derived.Laws.BitsLemmas
import Derived.RowKit
import Derived.Test.YteobnfcdlcemlaaDoorWWords
import Derived.Test.YteobnfcdlcemlaaDoorWLast
import Derived.Test.YteobnfcdlcemlaaDoorWTab
import Derived.Test.YteobnfcdlcemlaaDoorWFour
import Derived.Test.YteobnfcdlcemlaaDoorWQPut
import Derived.Test.YteobnfcdlcemlaaDoorWApart
import Derived.Test.YteobnfcdlcemlaaDoorWArr
import Derived.Test.YteobnfcdlcemlaaDoorWZeros
import Derived.Test.YteobnfcdlcemlaaDoorWFoot
import Derived.Test.YteobnfcdlcemlaaDoorWKept
import Derived.Test.YteobnfcdlcemlaaDoorWShare
import Derived.Test.YteobnfcdlcemlaaDoorWN
import Derived.Test.YteobnfcdlcemlaaDoorWFootNe
import Derived.Test.YteobnfcdlcemlaaDoorWAt
import Derived.Test.YteobnfcdlcemlaaDoorWEqStruct
import Derived.Test.YteobnfcdlcemlaaDoorWRepsOne
import Derived.Test.YteobnfcdlcemlaaDoorWInv
import Derived.Test.YteobnfcdlcemlaaDoorWInvWords
import Derived.Test.YteobnfcdlcemlaaDoorWGuard
import Derived.Test.YteobnfcdlcemlaaDoorWNEv
import Derived.Test.YteobnfcdlcemlaaDoorWMore
namespace Go.Proofs.YteobnfcdlcemlaaDoor.T
open Go.RowKit Go.Proofs.YteobnfcdlcemlaaDoorW.PrintWords Go.Proofs.YteobnfcdlcemlaaDoorW.PrintLast Go.Proofs.YteobnfcdlcemlaaDoorW.PrintMore
attribute [local go_sem] max2_int min2_int max_two min_two max_three min_three max_four min_four   -- for this text's walks alone
set_option linter.unusedVariables false
set_option linter.unusedSimpArgs false



def errW : Option Int → Value
  | none => .nilIface
  | some c => .iface 0 (.int .i64 c)
theorem errW_none : errW none = .nilIface := rfl
theorem errW_some (c : Int) : errW (some c) = .iface 0 (.int .i64 c) := rfl

-- the values' own types

end Go.Proofs.YteobnfcdlcemlaaDoor.T
