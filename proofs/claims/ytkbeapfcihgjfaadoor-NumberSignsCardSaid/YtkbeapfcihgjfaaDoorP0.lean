-- Written by a program of this session (xprint.py) out of the translation.
import Derived.Test.YtkbeapfcihgjfaaDoorProg
import Derived.Below
import Derived.Deep.Draws
import Derived.Deep.AppendLies
import Derived.Maps.AppendAt
import Derived.OwnWalk
import Derived.Laws.BytesArg
import Derived.Laws.MakeOwn
import Derived.Laws.OwnMore
import Derived.Deep.OwnRows
import Derived.Tactics
import Derived.Lib.ConvBytes
import Derived.Laws.Slices
import Derived.WalkKit
import Derived.KernelRfl
import Derived.RowKit3
import Derived.Deep.LoopGhost
import Derived.Deep.QuietTactic
import Derived.BigQuiet
import Derived.WideLaws
import Derived.Deep.DeepCutAuto
import Derived.Deep.CutBlock
import Derived.Deep.RegionHeld3
import Derived.Laws.Rows
import Derived.Lib.AppendStr
import Derived.ArgAppend
import Derived.Laws.IdiomCopy
import Derived.OrdersHeld
import Derived.Laws.BitsLemmas
import Derived.RowKit
import Derived.Test.YtkbeapfcihgjfaaDoorLit
import Derived.Test.YtkbeapfcihgjfaaDoorTrim
import Derived.Test.YtkbeapfcihgjfaaDoorWWords
import Derived.Test.YtkbeapfcihgjfaaDoorWLast
import Derived.Test.YtkbeapfcihgjfaaDoorWTab
import Derived.Test.YtkbeapfcihgjfaaDoorWFour
import Derived.Test.YtkbeapfcihgjfaaDoorWQPut
import Derived.Test.YtkbeapfcihgjfaaDoorWApart
import Derived.Test.YtkbeapfcihgjfaaDoorWArr
import Derived.Test.YtkbeapfcihgjfaaDoorWZeros
import Derived.Test.YtkbeapfcihgjfaaDoorWFoot
import Derived.Test.YtkbeapfcihgjfaaDoorWKept
import Derived.Test.YtkbeapfcihgjfaaDoorWShare
import Derived.Test.YtkbeapfcihgjfaaDoorWN
import Derived.Test.YtkbeapfcihgjfaaDoorWFootNe
import Derived.Test.YtkbeapfcihgjfaaDoorWAt
import Derived.Test.YtkbeapfcihgjfaaDoorWEqStruct
import Derived.Test.YtkbeapfcihgjfaaDoorWRepsOne
import Derived.Test.YtkbeapfcihgjfaaDoorWInv
import Derived.Test.YtkbeapfcihgjfaaDoorWInvWords
import Derived.Test.YtkbeapfcihgjfaaDoorWGuard
import Derived.Test.YtkbeapfcihgjfaaDoorWNEv
import Derived.Test.YtkbeapfcihgjfaaDoorWMore
namespace Go.Proofs.YtkbeapfcihgjfaaDoor.P
open Go.RowKit Go.Proofs.YtkbeapfcihgjfaaDoorW.PrintWords Go.Proofs.YtkbeapfcihgjfaaDoorW.PrintLast Go.Proofs.YtkbeapfcihgjfaaDoor.Ext Go.Proofs.YtkbeapfcihgjfaaDoorW.PrintMore
attribute [local go_sem] max2_int min2_int max_two min_two max_three min_three max_four min_four   -- for this text's walks alone
set_option linter.unusedVariables false
set_option linter.unusedSimpArgs false



def errW : Option Int → Value
  | none => .nilIface
  | some c => .iface 0 (.int .i64 c)
theorem errW_none : errW none = .nilIface := rfl
theorem errW_some (c : Int) : errW (some c) = .iface 0 (.int .i64 c) := rfl

-- the values' own types

end Go.Proofs.YtkbeapfcihgjfaaDoor.P
