/- Proved: plain facts on a tree with a node put: it may be, the node is there, else all is as it was. No condition. -/
import Derived.Test.YtdfddiehiiaepaaGreatDoorVsPureTreeAll
set_option linter.unusedVariables false
set_option linter.unusedSimpArgs false
namespace Go.Proofs.YtdfddiehiiaepaaGreatDoor.PureT7
open Go.RowKit Go.Proofs.YtdfddiehiiaepaaGreatDoor.P Go.Proofs.YtdfddiehiiaepaaGreatDoor.Ext Go.Proofs.YtdfddiehiiaepaaGreatDoorW.PrintWords
theorem is_at {t : List S73} {p : ByteArray} (h : bsIs t p = true) : ∃ hlt : bs t p < t.length, pk (t[bs t p]'hlt) = p.data.toList := by
  unfold bsIs at h
  simp only [Bool.and_eq_true, decide_eq_true_eq, beq_iff_eq] at h
  refine ⟨h.1, ?_⟩
  rw [rd_get h.1] at h
  exact (cmp7 _ _).2.1 h.2
end Go.Proofs.YtdfddiehiiaepaaGreatDoor.PureT7
