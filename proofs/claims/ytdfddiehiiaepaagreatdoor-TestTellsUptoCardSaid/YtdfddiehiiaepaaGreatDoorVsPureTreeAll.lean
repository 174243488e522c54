/- Proved: a tree without a path and all beneath it may be. Conditions: a tree that fits, texts of at most 2 to the 40 octets. -/
import Derived.Test.YtdfddiehiiaepaaGreatDoorVsP2
import Derived.Test.YtdfddiehiiaepaaGreatDoorVsPathRef
import Derived.Test.YtdfddiehiiaepaaGreatDoorVsTreeOrd
set_option linter.unusedVariables false
set_option linter.unusedSimpArgs false
namespace Go.Proofs.YtdfddiehiiaepaaGreatDoor.PureT7
open Go.RowKit Go.Proofs.YtdfddiehiiaepaaGreatDoor.P Go.Proofs.YtdfddiehiiaepaaGreatDoor.Ext Go.Proofs.YtdfddiehiiaepaaGreatDoorW.PrintWords
/-- What is at a path. -/
def kindB (t : List S73) (p : ByteArray) : Int := if (askB t p).2 = 0 then kindOf t (askB t p).1 else 0
theorem fits_len {t : List S73} (ht : fitsT t = true) : t.length ≤ 1099511627776 := by
  unfold fitsT at ht
  simp only [Bool.and_eq_true, decide_eq_true_eq] at ht
  exact ht.1.1
theorem kind_some {t : List S73} {p : ByteArray} (ht : fitsT t = true) (hp : p.size ≤ 1099511627776) : tree_Kind.f t p = some (kindB t p) := by
  have hl := fits_len ht
  unfold tree_Kind.f tree_ask.f kindB
  rw [if_pos ⟨ht, hp⟩, Option.bind_some]
  split
  · unfold tree_kind.f
    rw [if_pos hl, Option.bind_some]
  · rfl
theorem check_iff (t : List S73) : checkB t = true ↔ Sorted t ∧ t.length ≤ 256 ∧ total t ≤ 65536 ∧ ∀ n ∈ t, nodeOk t n = true := by
  unfold checkB
  rw [Bool.and_eq_true, Bool.and_eq_true, Bool.and_eq_true, inc_sorted, decide_eq_true_eq, decide_eq_true_eq, List.all_eq_true]
  exact ⟨fun h => ⟨h.1.1.1, h.1.1.2, h.1.2, h.2⟩, fun h => ⟨⟨⟨h.1, h.2.1⟩, h.2.2.1⟩, h.2.2.2⟩⟩
end Go.Proofs.YtdfddiehiiaepaaGreatDoor.PureT7
