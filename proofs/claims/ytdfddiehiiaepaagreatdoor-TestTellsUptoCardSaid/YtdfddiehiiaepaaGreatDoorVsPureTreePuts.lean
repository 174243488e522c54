/- Proved: what tree.Put and tree.Get tell. Conditions: a tree that fits, texts of at most 2 to the 20 octets. -/
import Derived.Test.YtdfddiehiiaepaaGreatDoorVsP3
import Derived.Test.YtdfddiehiiaepaaGreatDoorVsTreeWith
set_option linter.unusedVariables false
set_option linter.unusedSimpArgs false
namespace Go.Proofs.YtdfddiehiiaepaaGreatDoor.PureT7
open Go.RowKit Go.Proofs.YtdfddiehiiaepaaGreatDoor.P Go.Proofs.YtdfddiehiiaepaaGreatDoor.Ext Go.Proofs.YtdfddiehiiaepaaGreatDoorW.PrintWords
theorem get_some {t : List S73} {p : ByteArray} (ht : fitsT t = true) (hp : p.size ≤ 1099511627776) : tree_Get.f t p = some (getB t p) := by
  unfold tree_Get.f
  rw [if_pos ⟨ht, hp⟩]
theorem ask_good {t : List S73} {a : ByteArray} (h : checkB t = true) (ha : badP a = false) : askB t a = (pathB a, 0) := by
  unfold askB
  rw [if_pos h, ha]
  rfl
theorem ask_cases (t : List S73) (a : ByteArray) : (askB t a).2 ≠ 0 ∨ (checkB t = true ∧ badP a = false) := by
  unfold askB
  by_cases h : checkB t = true
  · cases hb : badP a
    · exact .inr ⟨h, rfl⟩
    · rw [if_pos h]
      exact .inl (by simp)
  · rw [if_neg h]
    exact .inl (by simp)
end Go.Proofs.YtdfddiehiiaepaaGreatDoor.PureT7
