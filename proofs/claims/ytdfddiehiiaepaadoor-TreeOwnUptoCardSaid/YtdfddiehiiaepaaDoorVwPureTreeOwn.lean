/- Proved: the plain law of TreeOwn: what is told shares nothing with what was handed in. Conditions: a tree that fits, texts of at most 2 to the 20 octets. -/
import Derived.Test.YtdfddiehiiaepaaDoorVwP3
import Derived.Test.YtdfddiehiiaepaaDoorVwRefPut
set_option linter.unusedVariables false
set_option linter.unusedSimpArgs false
namespace Go.Proofs.YtdfddiehiiaepaaDoor.PureT7
open Go.RowKit Go.Proofs.YtdfddiehiiaepaaDoor.P Go.Proofs.YtdfddiehiiaepaaDoor.Ext Go.Proofs.YtdfddiehiiaepaaDoorW.PrintWords
theorem spoil_loop (N : Nat) (hN : N ≤ 1099511627776) : ∀ (d i K : Nat) (t : List S65), t.length = N → i + d = N → d + 1 ≤ K → ∃ r, cowrieplain_SpoilNodes.l0 K t i = some r
  | 0, i, K, t, ht, hd, hK => by
    obtain ⟨K, rfl⟩ : ∃ k, K = k + 1 := ⟨K - 1, by omega⟩
    unfold cowrieplain_SpoilNodes.l0
    rw [if_neg (by omega)]
    exact ⟨_, rfl⟩
  | d + 1, i, K, t, ht, hd, hK => by
    obtain ⟨K, rfl⟩ : ∃ k, K = k + 1 := ⟨K - 1, by omega⟩
    unfold cowrieplain_SpoilNodes.l0
    rw [if_pos (by omega), if_pos (by omega), w1 i (by omega)]
    exact spoil_loop N hN d (i + 1) K _ (by rw [List.length_set]; exact ht) (by omega) (by omega)
theorem same_loop (t : List S65) (ht : t.length ≤ 1099511627777) : ∀ (d i K : Nat), i + d = t.length → d + 1 ≤ K → cowrieplain_SameNodes.l0 K t t i = some true
  | 0, i, K, hd, hK => by
    obtain ⟨K, rfl⟩ : ∃ k, K = k + 1 := ⟨K - 1, by omega⟩
    unfold cowrieplain_SameNodes.l0
    rw [if_neg (by omega)]
  | d + 1, i, K, hd, hK => by
    obtain ⟨K, rfl⟩ : ∃ k, K = k + 1 := ⟨K - 1, by omega⟩
    unfold cowrieplain_SameNodes.l0
    rw [if_pos (by omega), if_pos (by omega), if_pos (by omega), if_neg (by simp), w1 i (by omega)]
    exact same_loop t ht d (i + 1) K (by omega) (by omega)
theorem same_self (t : List S65) (ht : t.length ≤ 1099511627777) (K : Nat) (hK : t.length + 1 ≤ K) : cowrieplain_SameNodes.f K t t = some true := by
  unfold cowrieplain_SameNodes.f
  rw [if_pos rfl]
  exact same_loop t ht t.length 0 K (by omega) (by omega)
theorem put_len (t : List S65) (a d : ByteArray) : (PutB t a d).1.length ≤ 256 := by
  rcases Put_cases t a d with ⟨h, _⟩ | ⟨_, _, _, _, h, _, h2⟩
  · rw [h]
    simp
  · rw [h2]
    exact h
theorem remove_len (t : List S65) (a : ByteArray) (all : Bool) : (removeB t a all).1.length ≤ t.length := by
  unfold removeB
  split
  · split
    · simp
    · split
      · simp
      · split
        · simp
        · exact List.length_filter_le _ _
  · simp
theorem TreeOwnU (t : List S65) (a x : ByteArray) (ht : fitsT t = true) (ha : a.size ≤ 1048576) (hx : x.size ≤ 1048576) (K : Nat) (hK : 9000000000001 ≤ K) : cowrielaw07_TreeOwn.f K t a x = some true := by
  have hl := fits_len ht
  have hp := put_len t a x
  have hr := remove_len t a true
  obtain ⟨sp, hsp⟩ := spoil_loop t.length hl t.length 0 K t rfl (by omega) (by omega)
  have hcopy : cowrieplain_CopyNodes.f t = some t := by
    unfold cowrieplain_CopyNodes.f
    rw [if_pos (by simp; omega)]
    rfl
  have hrem : tree_Remove.f t a true = some (removeB t a true) := by
    unfold tree_Remove.f
    rw [if_pos ⟨ht, by omega⟩]
  unfold cowrielaw07_TreeOwn.f
  rw [alive_ok, Option.bind_some, if_pos rfl, hcopy, Option.bind_some, Put_some ht ha (by omega), Option.bind_some, hrem, Option.bind_some]
  have hsp' : cowrieplain_SpoilNodes.f K t = some sp := hsp
  rw [hsp', Option.bind_some, ref_put t ht a x ha hx K (by omega), Option.bind_some, ref_remove t ht a true ha K hK, Option.bind_some, same_self _ (by omega) K (by omega), Option.bind_some, if_pos rfl, num_ok, Option.bind_some, if_pos rfl,
    same_self _ (by omega) K (by omega), Option.bind_some, if_pos rfl, num_ok, Option.bind_some, beq_self_eq_true]
end Go.Proofs.YtdfddiehiiaepaaDoor.PureT7
