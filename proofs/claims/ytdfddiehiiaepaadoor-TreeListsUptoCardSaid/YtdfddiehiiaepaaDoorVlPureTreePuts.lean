/- Proved: the plain law of TreePuts: what was put is got; more behind it is behind it; what was removed is not there; all these trees may be. Conditions: a tree that fits, texts of at most 2 to the 20 octets. -/
import Derived.Test.YtdfddiehiiaepaaDoorVlP4
import Derived.Test.YtdfddiehiiaepaaDoorVlTreeWith
set_option linter.unusedVariables false
set_option linter.unusedSimpArgs false
namespace Go.Proofs.YtdfddiehiiaepaaDoor.PureT7
open Go.RowKit Go.Proofs.YtdfddiehiiaepaaDoor.P Go.Proofs.YtdfddiehiiaepaaDoor.Ext Go.Proofs.YtdfddiehiiaepaaDoorW.PrintWords
theorem ask_some {t : List S65} {a : ByteArray} (ht : fitsT t = true) (ha : a.size ≤ 1099511627776) : tree_ask.f t a = some (askB t a) := by
  unfold tree_ask.f
  rw [if_pos ⟨ht, ha⟩]
theorem ask_good {t : List S65} {a : ByteArray} (h : checkB t = true) (ha : badP a = false) : askB t a = (pathB a, 0) := by
  unfold askB
  rw [if_pos h, ha]
  rfl
theorem ask_cases (t : List S65) (a : ByteArray) : (askB t a).2 ≠ 0 ∨ (checkB t = true ∧ badP a = false) := by
  unfold askB
  by_cases h : checkB t = true
  · cases hb : badP a
    · exact .inr ⟨h, rfl⟩
    · rw [if_pos h]
      exact .inl (by simp)
  · rw [if_neg h]
    exact .inl (by simp)
/-- With a file. -/
def PutB (t : List S65) (a d : ByteArray) : List S65 × Int :=
  if (askB t a).2 = 0 then (if kindOf t (askB t a).1 = 2 then ([], 15) else putB t ⟨(askB t a).1, false, d⟩) else ([], (askB t a).2)
theorem Put_cases (t : List S65) (a d : ByteArray) : ((PutB t a d).1 = [] ∧ (PutB t a d).2 ≠ 0) ∨
    (checkB t = true ∧ badP a = false ∧ kindOf t (pathB a) ≠ 2 ∧ kindOf t (dirB (pathB a)) = 2 ∧ (withB t ⟨pathB a, false, d⟩).length ≤ 256 ∧ total (withB t ⟨pathB a, false, d⟩) ≤ 65536 ∧ PutB t a d = (withB t ⟨pathB a, false, d⟩, 0)) := by
  unfold PutB
  rcases ask_cases t a with h | ⟨h1, h2⟩
  · rw [if_neg h]
    exact .inl ⟨rfl, h⟩
  · rw [ask_good h1 h2, if_pos rfl]
    dsimp only
    by_cases hk : kindOf t (pathB a) = 2
    · rw [if_pos hk]
      exact .inl ⟨rfl, by decide⟩
    · rw [if_neg hk]
      unfold putB
      dsimp only
      rcases kind_cases t (dirB (pathB a)) with hd | hd | hd
      · rw [hd, if_pos rfl]
        exact .inl ⟨rfl, by decide⟩
      · rw [hd, if_neg (by decide), if_pos rfl]
        exact .inl ⟨rfl, by decide⟩
      · rw [hd, if_neg (by decide), if_neg (by decide)]
        by_cases hz : 256 < (withB t ⟨pathB a, false, d⟩).length ∨ 65536 < total (withB t ⟨pathB a, false, d⟩)
        · rw [if_pos hz]
          exact .inl ⟨rfl, by decide⟩
        · rw [if_neg hz]
          exact .inr ⟨h1, h2, hk, rfl, by omega, by omega, rfl⟩
end Go.Proofs.YtdfddiehiiaepaaDoor.PureT7
