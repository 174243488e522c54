/- Proved: what tree.Put and tree.Get tell. Conditions: a tree that fits, texts of at most 2 to the 20 octets. -/
import Derived.Test.YtdfddiehiiaepaaGreatDoorVtP2
import Derived.Test.YtdfddiehiiaepaaGreatDoorVtTreeWith
set_option linter.unusedVariables false
set_option linter.unusedSimpArgs false
namespace Go.Proofs.YtdfddiehiiaepaaGreatDoor.PureT7
open Go.RowKit Go.Proofs.YtdfddiehiiaepaaGreatDoor.P Go.Proofs.YtdfddiehiiaepaaGreatDoor.Ext Go.Proofs.YtdfddiehiiaepaaGreatDoorW.PrintWords
theorem ask_some {t : List S73} {a : ByteArray} (ht : fitsT t = true) (ha : a.size ≤ 1099511627776) : tree_ask.f t a = some (askB t a) := by
  unfold tree_ask.f
  rw [if_pos ⟨ht, ha⟩]
theorem get_some {t : List S73} {p : ByteArray} (ht : fitsT t = true) (hp : p.size ≤ 1099511627776) : tree_Get.f t p = some (getB t p) := by
  unfold tree_Get.f
  rw [if_pos ⟨ht, hp⟩]
theorem check_some {t : List S73} (ht : fitsT t = true) : tree_Check.f t = some (if checkB t = true then 0 else 9) := by
  unfold tree_Check.f
  rw [if_pos ht]
theorem ask_good {t : List S73} {a : ByteArray} (h : checkB t = true) (ha : badP a = false) : askB t a = (pathB a, 0) := by
  unfold askB
  rw [if_pos h, ha]
  rfl
theorem ask_cases (t : List S73) (a : ByteArray) : (askB t a).2 ≠ 0 ∨ (checkB t = true ∧ badP a = false) := by
  unfold askB
  by_cases h : checkB t = true
  · cases hb : badP a
    · exact .inr ⟨h, rfl⟩
    · rw [if_pos h]
      exact .inl (by simp)
  · rw [if_neg h]
    exact .inl (by simp)
/-- With a file. -/
def PutB (t : List S73) (a d : ByteArray) : List S73 × Int :=
  if (askB t a).2 = 0 then (if kindOf t (askB t a).1 = 2 then ([], 15) else putB t ⟨(askB t a).1, false, d⟩) else ([], (askB t a).2)
theorem Put_some {t : List S73} {a d : ByteArray} (ht : fitsT t = true) (ha : a.size ≤ 1048576) (hd : d.size ≤ 1099511627776) : tree_Put.f t a d = some (PutB t a d) := by
  have hl := fits_len ht
  have hps := path_size a
  unfold tree_Put.f PutB
  rw [ask_some ht (by omega), Option.bind_some]
  rcases ask_cases t a with h | ⟨h1, h2⟩
  · rw [if_neg h, if_neg h]
  · rw [ask_good h1 h2, if_pos rfl, if_pos rfl]
    dsimp only
    unfold tree_kind.f
    rw [if_pos hl, Option.bind_some]
    by_cases hk : kindOf t (pathB a) = 2
    · rw [if_pos hk, if_pos hk]
    · rw [if_neg hk, if_neg hk]
      unfold tree_put.f
      rw [if_pos ⟨ht, by omega, hd, path_head a⟩, Option.bind_some]
theorem Put_cases (t : List S73) (a d : ByteArray) : ((PutB t a d).1 = [] ∧ (PutB t a d).2 ≠ 0) ∨
    (checkB t = true ∧ badP a = false ∧ kindOf t (pathB a) ≠ 2 ∧ kindOf t (dirB (pathB a)) = 2 ∧ (withB t ⟨pathB a, false, d⟩).length ≤ 256 ∧ total (withB t ⟨pathB a, false, d⟩) ≤ 65536 ∧ PutB t a d = (withB t ⟨pathB a, false, d⟩, 0)) := by
  unfold PutB
  rcases ask_cases t a with h | ⟨h1, h2⟩
  · rw [if_neg h]
    exact .inl ⟨rfl, h⟩
  · rw [ask_good h1 h2, if_pos rfl]
    dsimp only
    by_cases hk : kindOf t (pathB a) = 2
    · rw [if_pos hk]
      exact .inl ⟨rfl, by decide⟩
    · rw [if_neg hk]
      unfold putB
      dsimp only
      rcases kind_cases t (dirB (pathB a)) with hd | hd | hd
      · rw [hd, if_pos rfl]
        exact .inl ⟨rfl, by decide⟩
      · rw [hd, if_neg (by decide), if_pos rfl]
        exact .inl ⟨rfl, by decide⟩
      · rw [hd, if_neg (by decide), if_neg (by decide)]
        by_cases hz : 256 < (withB t ⟨pathB a, false, d⟩).length ∨ 65536 < total (withB t ⟨pathB a, false, d⟩)
        · rw [if_pos hz]
          exact .inl ⟨rfl, by decide⟩
        · rw [if_neg hz]
          exact .inr ⟨h1, h2, hk, rfl, by omega, by omega, rfl⟩
end Go.Proofs.YtdfddiehiiaepaaGreatDoor.PureT7
