/- Proved: the plain law of TestTells: whatever words ask of whatever files, and any operator of one and of two, are as the page says. Conditions: a tree that fits, texts of at most 2 to the 20 octets. -/
import Derived.Test.YtdfddiehiiaepaaGreatDoorVsS1
import Derived.Test.YtdfddiehiiaepaaGreatDoorVsAsk10
set_option linter.unusedVariables false
set_option linter.unusedSimpArgs false
namespace Go.Proofs.YtdfddiehiiaepaaGreatDoor.PureT10
open Go.RowKit Go.Proofs.YtdfddiehiiaepaaGreatDoor.P Go.Proofs.YtdfddiehiiaepaaGreatDoor.Q Go.Proofs.YtdfddiehiiaepaaGreatDoor.S Go.Proofs.YtdfddiehiiaepaaGreatDoor.PureT7 Go.Proofs.YtdfddiehiiaepaaGreatDoor.Ext Go.Proofs.YtdfddiehiiaepaaGreatDoorW.PrintWords
theorem TestTellsU (l : List ByteArray) (t : List S73) (op a b : ByteArray) (ht : fitsT t = true) (hl : ∀ x ∈ l, x.size ≤ 1048576) (ha : a.size ≤ 1048576) (hb : b.size ≤ 1048576) : ∃ K, cowrielaw10_TestTells.f K l t op a b = some true := by
  obtain ⟨B, hB⟩ : ∃ B, B = 9000000000000 := ⟨_, rfl⟩
  refine ⟨B + 20, ?_⟩
  have h1 : cowrieref10_Eval.f (B + 20) l t = some (evB t l) := eval_ref l t ht hl (B + 2) (by omega)
  have h2 : test_Both.f (B + 19) a op b = some (bothB a op b) := both_some a op b ha hb (B + 18)
  have h3 : cowrieref10_Both.f (B + 19) a op b = some (bothB a op b) := both_ref a op b ha hb (B + 18) (by omega)
  have hj : ∀ z, z = false → cowrielaw10_TestTells.j0 (B + 20) t op a b z = some true := fun z hz => by
    subst hz
    rw [cowrielaw10_TestTells.j0, if_neg Bool.false_ne_true, single_some op a t ht ha, Option.bind_some, single_ref op a t ht ha (B + 19) (by omega), Option.bind_some, if_pos rfl, h2, Option.bind_some, h3, Option.bind_some, if_pos rfl,
      show cowrielaw10_alive.f = some true from rfl, Option.bind_some]
  unfold cowrielaw10_TestTells.f
  rw [eval_some l t ht hl, Option.bind_some, h1, Option.bind_some, if_pos rfl, unary_some, Option.bind_some, unary_ref op (B + 20) (by omega), Option.bind_some, if_neg (by simp), binary_some, Option.bind_some, binary_ref op (B + 20) (by omega), Option.bind_some]
  exact hj _ (by simp)
theorem words20 : ∀ {l : List ByteArray}, (l.map fun y => y.size + 1).sum ≤ 1048576 → ∀ a ∈ l, a.size ≤ 1048576
  | [], _, a, h => by simp at h
  | x :: l, hs, a, h => by
    simp only [List.map_cons, List.sum_cons] at hs
    rcases List.mem_cons.1 h with rfl | h
    · omega
    · exact words20 (by omega) a h
end Go.Proofs.YtdfddiehiiaepaaGreatDoor.PureT10
