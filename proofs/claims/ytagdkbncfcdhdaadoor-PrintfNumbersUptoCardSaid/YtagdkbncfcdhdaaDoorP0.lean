-- Written by a program of this session (xprint.py) out of the translation.
import Derived.Test.YtagdkbncfcdhdaaDoorProg
import Derived.Below
import Derived.Deep.Draws
import Derived.Deep.AppendLies
import Derived.Maps.AppendAt
import Derived.OwnWalk
import Derived.Laws.BytesArg
import Derived.Laws.MakeOwn
import Derived.Laws.OwnMore
import Derived.Deep.OwnRows
import Derived.Tactics
import Derived.Lib.ConvBytes
import Derived.Laws.Slices
import Derived.WalkKit
import Derived.KernelRfl
import Derived.RowKit3
import Derived.Deep.LoopGhost
import Derived.Deep.QuietTactic
import Derived.BigQuiet
import Derived.WideLaws
import Derived.Deep.DeepCutAuto
import Derived.Deep.CutBlock
import Derived.Deep.RegionHeld3
import Derived.Laws.Rows
import Derived.Lib.AppendStr
import Derived.ArgAppend
import Derived.Laws.IdiomCopy
import Derived.OrdersHeld
import Derived.Laws.BitsLemmas
import Derived.RowKit
import Derived.Test.YtagdkbncfcdhdaaDoorWWords
import Derived.Test.YtagdkbncfcdhdaaDoorWLast
import Derived.Test.YtagdkbncfcdhdaaDoorWTab
import Derived.Test.YtagdkbncfcdhdaaDoorWFour
import Derived.Test.YtagdkbncfcdhdaaDoorWQPut
import Derived.Test.YtagdkbncfcdhdaaDoorWApart
import Derived.Test.YtagdkbncfcdhdaaDoorWArr
import Derived.Test.YtagdkbncfcdhdaaDoorWZeros
import Derived.Test.YtagdkbncfcdhdaaDoorWFoot
import Derived.Test.YtagdkbncfcdhdaaDoorWKept
import Derived.Test.YtagdkbncfcdhdaaDoorWShare
import Derived.Test.YtagdkbncfcdhdaaDoorWN
import Derived.Test.YtagdkbncfcdhdaaDoorWFootNe
import Derived.Test.YtagdkbncfcdhdaaDoorWAt
import Derived.Test.YtagdkbncfcdhdaaDoorWEqStruct
import Derived.Test.YtagdkbncfcdhdaaDoorWRepsOne
import Derived.Test.YtagdkbncfcdhdaaDoorWInv
import Derived.Test.YtagdkbncfcdhdaaDoorWInvWords
import Derived.Test.YtagdkbncfcdhdaaDoorWGuard
import Derived.Test.YtagdkbncfcdhdaaDoorWNEv
import Derived.Test.YtagdkbncfcdhdaaDoorWMore
namespace Go.Proofs.YtagdkbncfcdhdaaDoor.P
open Go.RowKit Go.Proofs.YtagdkbncfcdhdaaDoorW.PrintWords Go.Proofs.YtagdkbncfcdhdaaDoorW.PrintLast Go.Proofs.YtagdkbncfcdhdaaDoorW.PrintMore
attribute [local go_sem] max2_int min2_int max_two min_two max_three min_three max_four min_four   -- for this text's walks alone
set_option linter.unusedVariables false
set_option linter.unusedSimpArgs false



def errW : Option Int → Value
  | none => .nilIface
  | some c => .iface 0 (.int .i64 c)
theorem errW_none : errW none = .nilIface := rfl
theorem errW_some (c : Int) : errW (some c) = .iface 0 (.int .i64 c) := rfl

theorem info5 : (Tryd.prog.info? 5).map (fun i => (i.zero, i.size, i.bytes)) = some (some (.int .u8 0), 1, 1) := by kernel_rfl
theorem info9 : (Tryd.prog.info? 9).map (fun i => (i.zero, i.size, i.bytes)) = some (some (.string ⟨#[]⟩), 1, 16) := by kernel_rfl
-- the values' own types

end Go.Proofs.YtagdkbncfcdhdaaDoor.P
