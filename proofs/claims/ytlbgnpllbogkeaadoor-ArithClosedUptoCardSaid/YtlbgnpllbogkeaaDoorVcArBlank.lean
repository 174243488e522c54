/- Proved: blanks ahead of a text change nothing but places (arith's parser, in plain Lean). No program's step. -/
import Derived.Test.YtlbgnpllbogkeaaDoorVcArTok
import Derived.Test.YtlbgnpllbogkeaaDoorVcArShift
import Derived.Test.YtlbgnpllbogkeaaDoorVcArParse
set_option linter.unusedVariables false
set_option linter.unusedSimpArgs false
namespace Go.Proofs.YtlbgnpllbogkeaaDoor.Ext
open Go.RowKit Go.Proofs.YtlbgnpllbogkeaaDoorW.PrintWords
theorem ba_eq {a b : ByteArray} (h : a.data.toList = b.data.toList) : a = b := ByteArray.ext (Array.ext' h)
theorem tail_eq (s : ByteArray) (a : Nat) : (s.extract a s.size).data.toList = s.data.toList.drop a := by
  rw [ByteArray.data_extract, Array.toList_extract, List.extract_eq_take_drop]
  rw [List.take_of_length_le]
  rw [List.length_drop, ← Lib.size_eq]
  exact Nat.le_refl _
theorem app_list (b s : ByteArray) : (b ++ s).data.toList = b.data.toList ++ s.data.toList := by simp
theorem app_size (b s : ByteArray) : (b ++ s).size = b.size + s.size := by simp
/-- The token, from where the blanks end. -/
def nextAt (s : ByteArray) (bash : Bool) (a : Nat) : Tok :=
  if a = s.size then ⟨0, em, a, a⟩
  else if nameOf (wordF (restF s a)) = true then ⟨2, wordF (restF s a), a, s.size - (restF s a).size + (wordF (restF s a)).size⟩
  else if (!dollarB s a && (litOf (wordF (restF s a))).2 == 0) = true then ⟨1, wordF (restF s a), a, s.size - (restF s a).size + (wordF (restF s a)).size⟩
  else if (dollarB s a || !((wordF (restF s a)).size == 0)) = true then ⟨4, wordF (restF s a), a, s.size - (restF s a).size + (wordF (restF s a)).size⟩
  else signGo s bash a signsL
theorem nextF_at (s : ByteArray) (bash : Bool) (i : Nat) : nextF s bash i = nextAt s bash (skipF s i) := rfl
section
variable {b s : ByteArray} {n : Nat}
theorem ext_app (hn : b.size = n) (a : Nat) : (b ++ s).extract (a + n) (b ++ s).size = s.extract a s.size := by
  apply ba_eq
  rw [tail_eq, tail_eq, app_list, List.drop_append, List.drop_of_length_le (by rw [← Lib.size_eq]; omega), List.nil_append, ← Lib.size_eq, hn, Nat.add_sub_cancel]
theorem rest_app (hn : b.size = n) (a : Nat) : restF (b ++ s) (a + n) = restF s a := by
  unfold restF
  rw [ext_app hn]
theorem dollar_app (hn : b.size = n) (a : Nat) : dollarB (b ++ s) (a + n) = dollarB s a := by
  unfold dollarB
  rw [ext_app hn]
theorem sign_app (hn : b.size = n) (bash : Bool) (a : Nat) : ∀ l, signGo (b ++ s) bash (a + n) l = shT n (signGo s bash a l)
  | [] => by
    rw [signGo, signGo]
    unfold shT
    dsimp only
    rw [Nat.add_right_comm]
  | g :: l => by
    rw [signGo, signGo]
    have h : signOk (b ++ s) bash (a + n) g = signOk s bash a g := by
      unfold signOk
      rw [ext_app hn]
    rw [h]
    split
    · unfold shT
      dsimp only
      rw [Nat.add_right_comm]
    · exact sign_app hn bash a l
theorem next_app (hn : b.size = n) (bash : Bool) (a : Nat) (ha : a ≤ s.size) : nextAt (b ++ s) bash (a + n) = shT n (nextAt s bash a) := by
  unfold nextAt
  rw [rest_app hn, dollar_app hn, app_size, hn, sign_app hn]
  have hr := rest_le s a
  have e : n + s.size - (restF s a).size + (wordF (restF s a)).size = s.size - (restF s a).size + (wordF (restF s a)).size + n := by omega
  rw [e]
  by_cases h : a = s.size
  · rw [if_pos (by omega), if_pos h]
    rfl
  · rw [if_neg (by omega), if_neg h]
    split
    · rfl
    · split
      · rfl
      · split
        · rfl
        · rfl
theorem skip_app (hn : b.size = n) (i : Nat) : skipF (b ++ s) (i + n) = skipF s i + n := by
  unfold skipF
  rw [app_list, List.drop_append, List.drop_of_length_le (by rw [← Lib.size_eq]; omega), List.nil_append, ← Lib.size_eq, hn, Nat.add_sub_cancel]
  omega
end
end Go.Proofs.YtlbgnpllbogkeaaDoor.Ext
