-- Written by a program of this session (xprint.py) out of the translation.
import Derived.Test.YtbckpnioimhgcaaDoorProg
import Derived.Below
import Derived.Deep.Draws
import Derived.Deep.AppendLies
import Derived.Maps.AppendAt
import Derived.OwnWalk
import Derived.Laws.BytesArg
import Derived.Laws.MakeOwn
import Derived.Laws.OwnMore
import Derived.Deep.OwnRows
import Derived.Tactics
import Derived.Lib.ConvBytes
import Derived.Laws.Slices
import Derived.WalkKit
import Derived.KernelRfl
import Derived.RowKit3
import Derived.Deep.LoopGhost
import Derived.Deep.QuietTactic
import Derived.BigQuiet
import Derived.WideLaws
import Derived.Deep.DeepCutAuto
import Derived.Deep.CutBlock
import Derived.Deep.RegionHeld3
import Derived.Laws.Rows
import Derived.Lib.AppendStr
import Derived.ArgAppend
import Derived.Laws.IdiomCopy
import Derived.OrdersHeld
import Derived.Laws.BitsLemmas
import Derived.RowKit
import Derived.Test.YtbckpnioimhgcaaDoorWWords
import Derived.Test.YtbckpnioimhgcaaDoorWLast
import Derived.Test.YtbckpnioimhgcaaDoorWTab
import Derived.Test.YtbckpnioimhgcaaDoorWFour
import Derived.Test.YtbckpnioimhgcaaDoorWQPut
import Derived.Test.YtbckpnioimhgcaaDoorWApart
import Derived.Test.YtbckpnioimhgcaaDoorWArr
import Derived.Test.YtbckpnioimhgcaaDoorWZeros
import Derived.Test.YtbckpnioimhgcaaDoorWFoot
import Derived.Test.YtbckpnioimhgcaaDoorWKept
import Derived.Test.YtbckpnioimhgcaaDoorWShare
import Derived.Test.YtbckpnioimhgcaaDoorWN
import Derived.Test.YtbckpnioimhgcaaDoorWFootNe
import Derived.Test.YtbckpnioimhgcaaDoorWAt
import Derived.Test.YtbckpnioimhgcaaDoorWEqStruct
import Derived.Test.YtbckpnioimhgcaaDoorWRepsOne
import Derived.Test.YtbckpnioimhgcaaDoorWInv
import Derived.Test.YtbckpnioimhgcaaDoorWInvWords
import Derived.Test.YtbckpnioimhgcaaDoorWGuard
import Derived.Test.YtbckpnioimhgcaaDoorWNEv
import Derived.Test.YtbckpnioimhgcaaDoorWMore
namespace Go.Proofs.YtbckpnioimhgcaaDoor.Q
open Go.RowKit Go.Proofs.YtbckpnioimhgcaaDoorW.PrintWords Go.Proofs.YtbckpnioimhgcaaDoorW.PrintLast Go.Proofs.YtbckpnioimhgcaaDoorW.PrintMore
attribute [local go_sem] max2_int min2_int max_two min_two max_three min_three max_four min_four   -- for this text's walks alone
set_option linter.unusedVariables false
set_option linter.unusedSimpArgs false



def errW : Option Int → Value
  | none => .nilIface
  | some c => .iface 0 (.int .i64 c)
theorem errW_none : errW none = .nilIface := rfl
theorem errW_some (c : Int) : errW (some c) = .iface 0 (.int .i64 c) := rfl

theorem info5 : (Tryd.prog.info? 5).map (fun i => (i.zero, i.size, i.bytes)) = some (some (.int .u8 0), 1, 1) := by kernel_rfl
theorem info9 : (Tryd.prog.info? 9).map (fun i => (i.zero, i.size, i.bytes)) = some (some (.string ⟨#[]⟩), 1, 16) := by kernel_rfl
-- the values' own types

end Go.Proofs.YtbckpnioimhgcaaDoor.Q
