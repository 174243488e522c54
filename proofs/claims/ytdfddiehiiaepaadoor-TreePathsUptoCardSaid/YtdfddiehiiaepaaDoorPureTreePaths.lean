/- Proved: the plain law of TreePaths: a path as it is told is its own; a part and .. behind it change nothing. Condition: texts of at most 2 to the 20 octets. -/
import Derived.Test.YtdfddiehiiaepaaDoorP43
set_option linter.unusedVariables false
set_option linter.unusedSimpArgs false
namespace Go.Proofs.YtdfddiehiiaepaaDoor.PureT7
open Go.RowKit Go.Proofs.YtdfddiehiiaepaaDoor.P Go.Proofs.YtdfddiehiiaepaaDoor.Ext Go.Proofs.YtdfddiehiiaepaaDoorW.PrintWords

theorem alive_ok : cowrielaw07_alive.f = some true := by decide +kernel
theorem num_ok (e : Int) : cowrielaw07_num.f e = some e := rfl

theorem data_append (a b : ByteArray) : (a ++ b).data.toList = a.data.toList ++ b.data.toList := by simp [ByteArray.data_append]
theorem badP_eq (s : ByteArray) : badP s = true ↔ (s.data.toList = [] ∨ 0 ∈ s.data.toList) := by
  unfold badP
  rw [Bool.or_eq_true, List.isEmpty_iff, decide_eq_true_eq]
  have : ∀ l : List UInt8, 0 ≤ Lib.indexByte l 0 ↔ 0 ∈ l := by
    intro l
    induction l with
    | nil => simp [Lib.indexByte]
    | cons b l ih =>
      unfold Lib.indexByte
      split
      · rename_i h
        simp [eq_of_beq h]
      · rename_i h
        have hb : b ≠ 0 := fun e => h (by simp [e])
        split
        · rename_i h1
          have h2 : Lib.indexByte l 0 = -1 := eq_of_beq h1
          rw [h2] at ih
          simp at ih
          simp [Ne.symm hb, ih]
        · rename_i h1
          have h2 : Lib.indexByte l 0 ≠ -1 := by simpa using h1
          have h3 := Lib.indexByte_ge l 0
          have h4 : 0 ≤ Lib.indexByte l 0 := by omega
          simp [Ne.symm hb]
          exact ⟨fun _ => ih.1 h4, fun _ => by omega⟩
  rw [this]
theorem toB {a b : ByteArray} (h : a.data.toList = b.data.toList) : a = b := by rw [← mkB_of a, h, mkB_of]
theorem path_data (s : ByteArray) : (pathB s).data.toList = Path.pathL (Path.partsL s.data.toList) := rfl
theorem good (s : ByteArray) : ∀ w ∈ Path.partsL s.data.toList, Path.Good w := fun w hw => (Path.partsL_good _ w hw).1
theorem path_self (s : ByteArray) : pathB (pathB s) = pathB s := by
  apply toB
  rw [path_data, path_data, Path.partsL_path _ (good s)]
theorem path_behind (s : ByteArray) : pathB (pathB s ++ ⟨#[47, 120, 47, 46, 46, 47, 46]⟩) = pathB s := by
  apply toB
  rw [path_data, path_data, data_append, path_data]
  show Path.pathL (Path.partsL (Path.pathL (Path.partsL s.data.toList) ++ [47, 120, 47, 46, 46, 47, 46])) = _
  rw [Path.partsL_behind _ (good s)]
theorem path_round (s : ByteArray) : pathB ((⟨#[47]⟩ : ByteArray) ++ s ++ ⟨#[47, 47]⟩) = pathB s := by
  apply toB
  rw [path_data, path_data, data_append, data_append]
  show Path.pathL (Path.partsL ([47] ++ s.data.toList ++ [47, 47])) = _
  rw [show [47] ++ s.data.toList ++ [47, 47] = 47 :: (s.data.toList ++ [47, 47]) by simp, Path.partsL_round]
theorem path_size (s : ByteArray) : (pathB s).size ≤ s.size + 2 := by
  rw [Lib.size_eq, Lib.size_eq, path_data]
  exact Path.path_len _
theorem ok_path {s : ByteArray} (h : badP s = false) : badP (pathB s) = false := by
  rw [← Bool.not_eq_true, badP_eq] at h ⊢
  rintro (e | e)
  · rw [path_data] at e
    cases e
  · rw [path_data] at e
    rcases Path.path_mem _ _ e with e | e
    · cases e
    · exact h (.inr e)
theorem some_path {s : ByteArray} (h : badP s = false) (hs : s.size ≤ 1099511627776) : tree_Path.f s = some (pathB s, 0) := by
  unfold tree_Path.f
  rw [if_pos hs, h]
  rfl
theorem some_bad {s : ByteArray} (h : badP s = true) (hs : s.size ≤ 1099511627776) : tree_Path.f s = some (⟨#[]⟩, 31) := by
  unfold tree_Path.f
  rw [if_pos hs, h]
  rfl

theorem TreePathsU (a0 : ByteArray) (h : a0.size ≤ 1048576) : cowrielaw07_TreePaths.f a0 = some true := by
  unfold cowrielaw07_TreePaths.f
  rw [alive_ok, Option.bind_some, if_pos rfl]
  cases hb : badP a0
  · have hp := path_size a0
    have h1 : badP (pathB a0 ++ (⟨#[47, 120, 47, 46, 46, 47, 46]⟩ : ByteArray)) = false := by
      have := ok_path hb
      rw [← Bool.not_eq_true, badP_eq] at this ⊢
      rw [data_append]
      rintro (e | e)
      · simp at e
      · rcases List.mem_append.1 e with e | e
        · exact this (.inr e)
        · exact absurd e (by decide)
    have h2 : badP ((⟨#[47]⟩ : ByteArray) ++ a0 ++ (⟨#[47, 47]⟩ : ByteArray)) = false := by
      rw [← Bool.not_eq_true, badP_eq] at hb ⊢
      rw [data_append, data_append]
      rintro (e | e)
      · simp at e
      · rcases List.mem_append.1 e with e | e
        · rcases List.mem_append.1 e with e | e
          · exact absurd e (by decide)
          · exact hb (.inr e)
        · exact absurd e (by decide)
    have z1 : (pathB a0 ++ (⟨#[47, 120, 47, 46, 46, 47, 46]⟩ : ByteArray)).size = (pathB a0).size + 7 := by rw [ByteArray.size_append]; rfl
    have z2 : ((⟨#[47]⟩ : ByteArray) ++ a0).size = 1 + a0.size := by rw [ByteArray.size_append]; rfl
    have z3 : ((⟨#[47]⟩ : ByteArray) ++ a0 ++ (⟨#[47, 47]⟩ : ByteArray)).size = 1 + a0.size + 2 := by rw [ByteArray.size_append, z2]; rfl
    have hpos : 0 < (pathB a0).size := by rw [Lib.size_eq, path_data]; simp [Path.pathL]
    rw [some_path hb (by omega), Option.bind_some]
    dsimp only
    rw [num_ok, Option.bind_some, if_pos rfl, some_path (ok_path hb) (by omega), Option.bind_some, if_pos (by omega), some_path h1 (by omega), Option.bind_some,
      if_pos (by omega), if_pos (by omega), some_path h2 (by omega), Option.bind_some]
    simp only [num_ok, Option.bind_some]
    rw [if_pos (by decide +kernel), path_self, path_behind, path_round, if_pos rfl, if_pos rfl, if_pos rfl, if_pos (by omega)]
    have hbt : bt (pathB a0) 0 = 47 := by
      unfold bt
      rw [dif_pos (by simpa using hpos)]
      rfl
    rw [hbt]
    rfl
  · rw [some_bad hb (by omega), Option.bind_some]
    dsimp only
    rw [num_ok, Option.bind_some, if_neg (by decide), Lib.toList_data]
    rfl
end Go.Proofs.YtdfddiehiiaepaaDoor.PureT7
