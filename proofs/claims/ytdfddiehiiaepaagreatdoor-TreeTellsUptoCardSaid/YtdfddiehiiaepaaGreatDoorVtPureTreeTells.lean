/- Proved: the plain law of TreeTells: of any tree and path, whether it may be, what is there, it with a file, more of one, a directory, without a node, and names, are as the page says; it stays. Conditions: a tree that fits, texts of at most 2 to the 20 octets. -/
import Derived.Test.YtdfddiehiiaepaaGreatDoorVtP4
import Derived.Test.YtdfddiehiiaepaaGreatDoorVtRefList
set_option linter.unusedVariables false
set_option linter.unusedSimpArgs false
namespace Go.Proofs.YtdfddiehiiaepaaGreatDoor.PureT7
open Go.RowKit Go.Proofs.YtdfddiehiiaepaaGreatDoor.P Go.Proofs.YtdfddiehiiaepaaGreatDoor.Ext Go.Proofs.YtdfddiehiiaepaaGreatDoorW.PrintWords
theorem TreeTellsU (t : List S73) (a x : ByteArray) (all : Bool) (ht : fitsT t = true) (h20 : t.length ≤ 1048576) (ha : a.size ≤ 1048576) (hx : x.size ≤ 1048576) : ∃ K, cowrielaw07_TreeTells.f K t a x all = some true := by
  have hl := fits_len ht
  have hp := put_len t a x
  have hadd := add_len t a x
  have hmk := mkdir_len t a
  have hr := remove_len t a all
  have hli : (listB t a).1.length ≤ 1048576 := by
    unfold listB
    split
    · split
      · simp
      · split
        · simp
        · dsimp only
          rw [srt_length]
          exact Nat.le_trans (names_len t _) h20
    · simp
  obtain ⟨kl, hkl⟩ := ref_list t ht a ha
  obtain ⟨ks, hks⟩ := PureS.texts_same (listB t a).1 (by omega)
  obtain ⟨K, hK⟩ : ∃ K, K = 9000000000001 + kl + ks := ⟨_, rfl⟩
  have f1 := hkl K (by omega)
  have f2 := hks K (by omega)
  dsimp only at f2
  refine ⟨K + 1, ?_⟩
  have hcopy : cowrieplain_CopyNodes.f t = some t := by
    unfold cowrieplain_CopyNodes.f
    rw [if_pos (by simp; omega)]
    rfl
  have hrem : tree_Remove.f t a all = some (removeB t a all) := by
    unfold tree_Remove.f
    rw [if_pos ⟨ht, by omega⟩]
  have hpath : tree_Path.f a = some (if badP a = true then (⟨#[]⟩, 31) else (pathB a, 0)) := by
    unfold tree_Path.f
    rw [if_pos (by omega)]
  have hj : ∀ b, b = false → cowrielaw07_TreeTells.j0 (K + 1) t a all t b = some true := fun b hb => by
    subst hb
    simp only [cowrielaw07_TreeTells.j0]
    rw [if_neg (by simp), Mkdir_some ht ha, Option.bind_some, ref_mkdir t ht a ha K (by omega), Option.bind_some, hrem, Option.bind_some, ref_remove t ht a all ha K (by omega), Option.bind_some, List_some ht ha K (by omega), Option.bind_some, f1, Option.bind_some,
      same_self _ (by omega) K (by omega), Option.bind_some, if_pos rfl, num_ok, Option.bind_some, if_pos rfl, same_self _ (by omega) K (by omega), Option.bind_some, if_pos rfl, num_ok, Option.bind_some, if_pos rfl, f2, Option.bind_some, if_pos rfl, num_ok, Option.bind_some, if_pos rfl,
      kind_some ht (by omega), Option.bind_some, ref_kindK t ht a ha K (by omega), Option.bind_some, if_pos rfl, check_some ht, Option.bind_some, num_ok, Option.bind_some, ref_check t ht K (by omega), Option.bind_some, if_pos rfl, same_self _ (by omega) K (by omega), Option.bind_some, if_pos rfl, alive_ok, Option.bind_some]
  unfold cowrielaw07_TreeTells.f
  rw [hcopy, Option.bind_some, hpath, Option.bind_some, ref_path a (by omega) (K + 1) (by omega), Option.bind_some, get_some ht (by omega), Option.bind_some, ref_get t ht a ha (K + 1) (by omega), Option.bind_some, Put_some ht ha (by omega), Option.bind_some, ref_put t ht a x ha (by omega) (K + 1) (by omega), Option.bind_some,
    Add_some ht ha hx, Option.bind_some, ref_add t ht a x ha hx (K + 1) (by omega), Option.bind_some, if_pos rfl, num_ok, Option.bind_some, if_pos rfl, if_pos rfl, num_ok, Option.bind_some, if_pos rfl, same_self _ (by omega) (K + 1) (by omega), Option.bind_some, if_pos rfl, num_ok, Option.bind_some, if_pos rfl,
    same_self _ (by omega) (K + 1) (by omega), Option.bind_some, if_pos rfl, num_ok, Option.bind_some]
  exact hj _ (by simp)
end Go.Proofs.YtdfddiehiiaepaaGreatDoor.PureT7
