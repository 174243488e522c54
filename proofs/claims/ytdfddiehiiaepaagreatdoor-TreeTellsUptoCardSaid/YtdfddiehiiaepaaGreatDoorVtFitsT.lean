/- Proved: a tree of bulk at most 2 to the 20 fits. No condition besides. -/
import Derived.Test.YtdfddiehiiaepaaGreatDoorVtCheck
import Derived.Test.YtdfddiehiiaepaaGreatDoorVtOpens
set_option linter.unusedVariables false
namespace Go.Proofs.YtdfddiehiiaepaaGreatDoor.Ext
open Go.RowKit Go.Proofs.YtdfddiehiiaepaaGreatDoor.P
theorem bulk_sums : ∀ l : List S73, l.length ≤ (l.map fun y => szS73 y).sum ∧ total l ≤ (l.map fun y => szS73 y).sum ∧ ∀ n ∈ l, n.f0.size ≤ (l.map fun y => szS73 y).sum
  | [] => ⟨Nat.le_refl _, Nat.le_refl _, by simp⟩
  | n :: l => by
    obtain ⟨h1, h2, h3⟩ := bulk_sums l
    have e : szS73 n = (n.f0.size + 1 + (1 + (n.f2.size + 1))) + 1 := rfl
    have e2 : total (n :: l) = n.f2.size + total l := by unfold total; simp
    simp only [List.map_cons, List.sum_cons, List.length_cons]
    refine ⟨by omega, by omega, fun x hx => ?_⟩
    rcases List.mem_cons.1 hx with rfl | hx
    · omega
    · have := h3 x hx
      omega
theorem fits_bulk {l : List S73} (h : (l.map fun y => szS73 y).sum ≤ 1048576) : fitsT l = true := by
  obtain ⟨h1, h2, h3⟩ := bulk_sums l
  unfold fitsT
  rw [decide_eq_true (by omega), decide_eq_true (by omega), Bool.true_and, Bool.true_and, List.all_eq_true]
  intro x hx
  have := h3 x hx
  exact decide_eq_true (by omega)
end Go.Proofs.YtdfddiehiiaepaaGreatDoor.Ext
