/- Proved: the plain law of TreeAll: without a directory and all beneath it nothing of it is there, and all else is. Conditions: a tree that fits, texts of at most 2 to the 40 octets. -/
import Derived.Test.YtdfddiehiiaepaaDoorVwP3
import Derived.Test.YtdfddiehiiaepaaDoorVwPathRef
import Derived.Test.YtdfddiehiiaepaaDoorVwTreeOrd
set_option linter.unusedVariables false
set_option linter.unusedSimpArgs false
namespace Go.Proofs.YtdfddiehiiaepaaDoor.PureT7
open Go.RowKit Go.Proofs.YtdfddiehiiaepaaDoor.P Go.Proofs.YtdfddiehiiaepaaDoor.Ext Go.Proofs.YtdfddiehiiaepaaDoorW.PrintWords
theorem fits_len {t : List S65} (ht : fitsT t = true) : t.length ≤ 1099511627776 := by
  unfold fitsT at ht
  simp only [Bool.and_eq_true, decide_eq_true_eq] at ht
  exact ht.1.1
def Under (p q : List UInt8) : Prop := q = p ∨ (p ++ [47]) <+: q
theorem prefix_iff (s pre : List UInt8) : Lib.hasPrefix s pre = true ↔ pre <+: s := by
  unfold Lib.hasPrefix
  first | exact List.isPrefixOf_iff_prefix | simp [List.isPrefixOf_iff_prefix] | (rw [decide_eq_true_eq])
theorem under_iff (p : ByteArray) (n : S65) : underB p n = true ↔ Under p.data.toList (pk n) := by
  unfold underB Under pk
  rw [Bool.or_eq_true, beq_iff_eq, Lib.toList_data, Lib.toList_data, prefix_iff, data_append]
theorem check_iff (t : List S65) : checkB t = true ↔ Sorted t ∧ t.length ≤ 256 ∧ total t ≤ 65536 ∧ ∀ n ∈ t, nodeOk t n = true := by
  unfold checkB
  rw [Bool.and_eq_true, Bool.and_eq_true, Bool.and_eq_true, inc_sorted, decide_eq_true_eq, decide_eq_true_eq, List.all_eq_true]
  exact ⟨fun h => ⟨h.1.1.1, h.1.1.2, h.1.2, h.2⟩, fun h => ⟨⟨⟨h.1, h.2.1⟩, h.2.2.1⟩, h.2.2.2⟩⟩
end Go.Proofs.YtdfddiehiiaepaaDoor.PureT7
