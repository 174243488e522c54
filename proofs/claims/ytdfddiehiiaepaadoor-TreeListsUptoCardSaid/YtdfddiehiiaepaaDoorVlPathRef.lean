/- Proved: the page's Path is that of the program. Condition: texts of at most 2 to the 40 octets. -/
import Derived.Test.YtdfddiehiiaepaaDoorVlP3
import Derived.Test.YtdfddiehiiaepaaDoorVlPureTreePaths
set_option linter.unusedVariables false
set_option linter.unusedSimpArgs false
namespace Go.Proofs.YtdfddiehiiaepaaDoor.PureT7
open Go.RowKit Go.Proofs.YtdfddiehiiaepaaDoor.P Go.Proofs.YtdfddiehiiaepaaDoor.Ext Go.Proofs.YtdfddiehiiaepaaDoorW.PrintWords
theorem w1 (i : Nat) (h : i ≤ 4398046511104) : wrap64 (((i : Nat) : Int) + 1) = ((i + 1 : Nat) : Int) := by unfold wrap64; omega
theorem wm1 (i : Nat) (h : i ≤ 4398046511104) : wrap64 (((i + 1 : Nat) : Int) - 1) = ((i : Nat) : Int) := by unfold wrap64; omega
end Go.Proofs.YtdfddiehiiaepaaDoor.PureT7
