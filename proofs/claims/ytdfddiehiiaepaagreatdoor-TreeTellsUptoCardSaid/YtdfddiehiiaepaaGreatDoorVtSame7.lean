/- Proved: a tree is the same as itself. Conditions: a tree that fits, texts of at most 2 to the 20 octets. -/
import Derived.Test.YtdfddiehiiaepaaGreatDoorVtP3
import Derived.Test.YtdfddiehiiaepaaGreatDoorVtRefPut
set_option linter.unusedVariables false
set_option linter.unusedSimpArgs false
namespace Go.Proofs.YtdfddiehiiaepaaGreatDoor.PureT7
open Go.RowKit Go.Proofs.YtdfddiehiiaepaaGreatDoor.P Go.Proofs.YtdfddiehiiaepaaGreatDoor.Ext Go.Proofs.YtdfddiehiiaepaaGreatDoorW.PrintWords
theorem same_loop (t : List S73) (ht : t.length ≤ 1099511627777) : ∀ (d i K : Nat), i + d = t.length → d + 1 ≤ K → cowrieplain_SameNodes.l0 K t t i = some true
  | 0, i, K, hd, hK => by
    obtain ⟨K, rfl⟩ : ∃ k, K = k + 1 := ⟨K - 1, by omega⟩
    unfold cowrieplain_SameNodes.l0
    rw [if_neg (by omega)]
  | d + 1, i, K, hd, hK => by
    obtain ⟨K, rfl⟩ : ∃ k, K = k + 1 := ⟨K - 1, by omega⟩
    unfold cowrieplain_SameNodes.l0
    rw [if_pos (by omega), if_pos (by omega), if_pos (by omega), if_neg (by simp), w1 i (by omega)]
    exact same_loop t ht d (i + 1) K (by omega) (by omega)
theorem same_self (t : List S73) (ht : t.length ≤ 1099511627777) (K : Nat) (hK : t.length + 1 ≤ K) : cowrieplain_SameNodes.f K t t = some true := by
  unfold cowrieplain_SameNodes.f
  rw [if_pos rfl]
  exact same_loop t ht t.length 0 K (by omega) (by omega)
theorem put_len (t : List S73) (a d : ByteArray) : (PutB t a d).1.length ≤ 256 := by
  rcases Put_cases t a d with ⟨h, _⟩ | ⟨_, _, _, _, h, _, h2⟩
  · rw [h]
    simp
  · rw [h2]
    exact h
theorem remove_len (t : List S73) (a : ByteArray) (all : Bool) : (removeB t a all).1.length ≤ t.length := by
  unfold removeB
  split
  · split
    · simp
    · split
      · simp
      · split
        · simp
        · exact List.length_filter_le _ _
  · simp
end Go.Proofs.YtdfddiehiiaepaaGreatDoor.PureT7
