/- Proved: tree.put, in the print's form: a node put into a tree, in order, if there is room for it. Conditions: a tree that fits, texts of at most 2 to the 40 octets, a path. -/
import Derived.Test.YtdfddiehiiaepaaGreatDoorVsTreeN
import Derived.Maps.AppendAt
import Derived.OwnWalk
import Derived.Lib.SliceRun
import Derived.Test.YtdfddiehiiaepaaGreatDoorVsCheck
import Derived.Laws.IdiomCopy
import Derived.Shelf.Spec.SlicesInsert
import Derived.Lib.AppendZerosOnto
import Derived.Lib.Overlaps
import Derived.Test.YtdfddiehiiaepaaGreatDoorVsTreeGP
set_option linter.unusedVariables false
set_option linter.unusedSimpArgs false
namespace Go.Proofs.YtdfddiehiiaepaaGreatDoor.Ext
open Go.RowKit Go.Shelf Go.Proofs.YtdfddiehiiaepaaGreatDoorW.PrintWords Go.Proofs.YtdfddiehiiaepaaGreatDoor.P
theorem total_append (a b : List S73) : total (a ++ b) = total a + total b := by unfold total; simp
theorem total_cons (n : S73) (b : List S73) : total (n :: b) = n.f2.size + total b := by unfold total; simp
theorem total_cut (t : List S73) (i : Nat) : total (t.take i) + total (t.drop i) = total t := by rw [← total_append, List.take_append_drop]
end Go.Proofs.YtdfddiehiiaepaaGreatDoor.Ext
