-- Written by programs of the kit and of this session.
import Derived.Test.YtdfddiehiiaepaaGreatDoorVsP1
import Derived.Test.YtdfddiehiiaepaaGreatDoorVsPut
import Derived.Test.YtdfddiehiiaepaaGreatDoorVsTreeGP
import Derived.Test.YtdfddiehiiaepaaGreatDoorVsTreeN
import Derived.Maps.AppendAt
import Derived.OwnWalk
import Derived.Lib.SliceRun
import Derived.Laws.IdiomCopy
section
namespace Go.Proofs.YtdfddiehiiaepaaGreatDoor.P
open Go.RowKit Go.Proofs.YtdfddiehiiaepaaGreatDoorW.PrintWords Go.Proofs.YtdfddiehiiaepaaGreatDoorW.PrintLast Go.Proofs.YtdfddiehiiaepaaGreatDoor.Ext Go.Proofs.YtdfddiehiiaepaaGreatDoorW.PrintMore
attribute [local go_sem] max2_int min2_int max_two min_two max_three min_three max_four min_four   -- for this text's walks alone
set_option linter.unusedVariables false
set_option linter.unusedSimpArgs false
theorem eqA73 (d : Nat) (w : World) (x0 y0 : ByteArray) (x1 y1 : Bool) (x2 y2 : ByteArray) :
    (Op.equalIn (d + 2) 73 (.agg #[.string x0, .bool x1, .string x2]) (.agg #[.string y0, .bool y1, .string y2])).run Tryz.prog w = .ok (x0.toList == y0.toList && (x1 == y1 && (x2.toList == y2.toList))) w := by
  refine eqA_of Tryz.underlying73 (by kernel_rfl) ?_
  refine eqf_cons (by rfl) (by go_simp; rfl) (by go_simp; rfl) (by go_simp) ?_
  refine eqf_cons (by rfl) (by go_simp; rfl) (by go_simp; rfl) (by go_simp) ?_
  exact eqf_last (by rfl) (by go_simp; rfl) (by go_simp; rfl) (by go_simp)
end Go.Proofs.YtdfddiehiiaepaaGreatDoor.P
end

section
namespace Go.Proofs.YtdfddiehiiaepaaGreatDoor.P
open Go.RowKit Go.Proofs.YtdfddiehiiaepaaGreatDoorW.PrintWords Go.Proofs.YtdfddiehiiaepaaGreatDoorW.PrintLast Go.Proofs.YtdfddiehiiaepaaGreatDoor.Ext Go.Proofs.YtdfddiehiiaepaaGreatDoorW.PrintMore
attribute [local go_sem] max2_int min2_int max_two min_two max_three min_three max_four min_four   -- for this text's walks alone
set_option linter.unusedVariables false
set_option linter.unusedSimpArgs false
attribute [local go_sem high] eqA73
end Go.Proofs.YtdfddiehiiaepaaGreatDoor.P
end

section
namespace Go.Proofs.YtdfddiehiiaepaaGreatDoor.P
open Go.RowKit Go.Proofs.YtdfddiehiiaepaaGreatDoorW.PrintWords Go.Proofs.YtdfddiehiiaepaaGreatDoorW.PrintLast Go.Proofs.YtdfddiehiiaepaaGreatDoor.Ext Go.Proofs.YtdfddiehiiaepaaGreatDoorW.PrintMore
attribute [local go_sem] max2_int min2_int max_two min_two max_three min_three max_four min_four   -- for this text's walks alone
set_option linter.unusedVariables false
set_option linter.unusedSimpArgs false
end Go.Proofs.YtdfddiehiiaepaaGreatDoor.P
end
