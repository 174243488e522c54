-- Written by a program of this session (xprint.py) out of the translation.
import Derived.Test.YtkbeapfcihgjfaaProg
import Derived.Below
import Derived.Deep.Draws
import Derived.Deep.AppendLies
import Derived.Maps.AppendAt
import Derived.OwnWalk
import Derived.Laws.BytesArg
import Derived.Laws.MakeOwn
import Derived.Laws.OwnMore
import Derived.Deep.OwnRows
import Derived.Tactics
import Derived.Lib.ConvBytes
import Derived.Laws.Slices
import Derived.WalkKit
import Derived.KernelRfl
import Derived.RowKit3
import Derived.Deep.LoopGhost
import Derived.Deep.QuietTactic
import Derived.BigQuiet
import Derived.WideLaws
import Derived.Deep.DeepCutAuto
import Derived.Deep.CutBlock
import Derived.Deep.RegionHeld3
import Derived.Laws.Rows
import Derived.Lib.AppendStr
import Derived.ArgAppend
import Derived.Laws.IdiomCopy
import Derived.OrdersHeld
import Derived.Laws.BitsLemmas
import Derived.RowKit
import Derived.Test.YtkbeapfcihgjfaaLit
import Derived.Test.YtkbeapfcihgjfaaWWords
import Derived.Test.YtkbeapfcihgjfaaWLast
import Derived.Test.YtkbeapfcihgjfaaWTab
import Derived.Test.YtkbeapfcihgjfaaWFour
import Derived.Test.YtkbeapfcihgjfaaWQPut
import Derived.Test.YtkbeapfcihgjfaaWApart
import Derived.Test.YtkbeapfcihgjfaaWArr
import Derived.Test.YtkbeapfcihgjfaaWZeros
import Derived.Test.YtkbeapfcihgjfaaWFoot
import Derived.Test.YtkbeapfcihgjfaaWKept
import Derived.Test.YtkbeapfcihgjfaaWShare
import Derived.Test.YtkbeapfcihgjfaaWN
import Derived.Test.YtkbeapfcihgjfaaWFootNe
import Derived.Test.YtkbeapfcihgjfaaWAt
import Derived.Test.YtkbeapfcihgjfaaWEqStruct
import Derived.Test.YtkbeapfcihgjfaaWRepsOne
import Derived.Test.YtkbeapfcihgjfaaWInv
import Derived.Test.YtkbeapfcihgjfaaWInvWords
import Derived.Test.YtkbeapfcihgjfaaWGuard
import Derived.Test.YtkbeapfcihgjfaaWNEv
import Derived.Test.YtkbeapfcihgjfaaWMore
namespace Go.Proofs.Ytkbeapfcihgjfaa.P
open Go.RowKit Go.Proofs.YtkbeapfcihgjfaaW.PrintWords Go.Proofs.YtkbeapfcihgjfaaW.PrintLast Go.Proofs.Ytkbeapfcihgjfaa.Ext Go.Proofs.YtkbeapfcihgjfaaW.PrintMore
attribute [local go_sem] max2_int min2_int max_two min_two max_three min_three max_four min_four   -- for this text's walks alone
set_option linter.unusedVariables false
set_option linter.unusedSimpArgs false



def errW : Option Int → Value
  | none => .nilIface
  | some c => .iface 0 (.int .i64 c)
theorem errW_none : errW none = .nilIface := rfl
theorem errW_some (c : Int) : errW (some c) = .iface 0 (.int .i64 c) := rfl

theorem info5 : (Try.prog.info? 5).map (fun i => (i.zero, i.size, i.bytes)) = some (some (.int .u8 0), 1, 1) := by kernel_rfl
-- the values' own types

end Go.Proofs.Ytkbeapfcihgjfaa.P
