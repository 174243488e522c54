/- Proved: in parentheses a text that is read is the same expression, or too deep; behind ! it is that of one (arith's parser, in plain Lean). No program's step. -/
import Derived.Test.YtlbgnpllbogkeaaDoorVcArBlank
set_option linter.unusedVariables false
set_option linter.unusedSimpArgs false
namespace Go.Proofs.YtlbgnpllbogkeaaDoor.Ext
open Go.RowKit Go.Proofs.YtlbgnpllbogkeaaDoorW.PrintWords
def clT (n L : Nat) (t : Tok) : Tok := if t.kind = 0 then ⟨3, sR, L + n, L + n + 1⟩ else shT n t
theorem part_paren : partB 41 = false := by decide
theorem runL_paren (p : UInt8 → Bool) (h : p 41 = false) : ∀ l : List UInt8, runL p (l ++ [41]) = runL p l
  | [] => by
    unfold runL
    rw [List.nil_append, List.takeWhile_cons, if_neg (by rw [h]; decide)]
    rfl
  | c :: l => by
    have ih := runL_paren p h l
    unfold runL at ih ⊢
    rw [List.cons_append, List.takeWhile_cons, List.takeWhile_cons]
    split
    · rw [List.length_cons, List.length_cons, ih]
    · rfl
abbrev parenR : ByteArray := ⟨#[41]⟩
section
variable {s : ByteArray}
theorem q_list : (s ++ parenR).data.toList = s.data.toList ++ [41] := app_list _ _
theorem q_size : (s ++ parenR).size = s.size + 1 := app_size _ _
theorem q_tail {a : Nat} (ha : a ≤ s.size) : ((s ++ parenR).extract a (s ++ parenR).size).data.toList = (s.extract a s.size).data.toList ++ [41] := by
  rw [tail_eq, tail_eq, q_list, List.drop_append_of_le_length (by rw [← Lib.size_eq]; exact ha)]
theorem q_skip {i : Nat} (hi : i ≤ s.size) : skipF (s ++ parenR) i = skipF s i := by
  unfold skipF
  rw [q_list, List.drop_append_of_le_length (by rw [← Lib.size_eq]; exact hi), runL_paren _ (by decide)]
theorem prefix_paren {g r : List UInt8} (hr : r ≠ []) (hg : g = [41] ∨ ¬ (41 : UInt8) ∈ g) : g.isPrefixOf (r ++ [41]) = g.isPrefixOf r := by
  rw [Bool.eq_iff_iff, List.isPrefixOf_iff_prefix, List.isPrefixOf_iff_prefix]
  constructor
  · intro h
    by_cases hl : g.length ≤ r.length
    · exact List.prefix_of_prefix_length_le h (List.prefix_append r [41]) hl
    · exfalso
      have h1 := h.length_le
      rw [List.length_append, List.length_singleton] at h1
      have h2 : g = r ++ [41] := h.eq_of_length (by rw [List.length_append, List.length_singleton]; omega)
      rcases hg with hg | hg
      · rw [hg] at h2
        have h3 := congrArg List.length h2
        rw [List.length_append, List.length_singleton] at h3
        exact hr (List.eq_nil_of_length_eq_zero (by omega))
      · exact hg (by rw [h2]; simp)
  · intro h
    exact h.trans (List.prefix_append _ _)
theorem signs_paren : ∀ g ∈ signsL, g.data.toList = [41] ∨ ¬ (41 : UInt8) ∈ g.data.toList := by decide
theorem q_sign {bash : Bool} {a : Nat} (ha : a < s.size) : ∀ l, (∀ g ∈ l, g.data.toList = [41] ∨ ¬ (41 : UInt8) ∈ g.data.toList) → signGo (s ++ parenR) bash a l = signGo s bash a l
  | [], _ => rfl
  | g :: l, h => by
    rw [signGo, signGo]
    have hr : (s.extract a s.size).data.toList ≠ [] := by
      intro e
      have h1 := tail_len s a
      rw [e, List.length_nil] at h1
      omega
    have h1 : signOk (s ++ parenR) bash a g = signOk s bash a g := by
      unfold signOk Lib.hasPrefix
      rw [q_tail (Nat.le_of_lt ha), prefix_paren hr (h g List.mem_cons_self)]
    rw [h1, q_sign ha l (fun x hx => h x (List.mem_cons_of_mem _ hx))]
theorem q_dollar {a : Nat} (ha : a < s.size) : dollarB (s ++ parenR) a = dollarB s a := by
  have hr : (s.extract a s.size).data.toList ≠ [] := by
    intro e
    have h1 := tail_len s a
    rw [e, List.length_nil] at h1
    omega
  unfold dollarB Lib.hasPrefix
  rw [q_tail (Nat.le_of_lt ha), prefix_paren hr (.inr (by decide))]
theorem q_rest {a : Nat} (ha : a < s.size) : restF (s ++ parenR) a = restF s a ++ parenR := by
  have hr : (s.extract a s.size).data.toList ≠ [] := by
    intro e
    have h1 := tail_len s a
    rw [e, List.length_nil] at h1
    omega
  apply ba_eq
  rw [app_list]
  unfold restF Lib.trimPrefix Lib.hasPrefix
  rw [q_tail (Nat.le_of_lt ha), prefix_paren hr (.inr (by decide))]
  split
  · show List.drop 1 _ = List.drop 1 _ ++ [41]
    rw [List.drop_append_of_le_length (by have := tail_len s a; omega)]
  · rfl
theorem q_word (r : ByteArray) : wordF (r ++ parenR) = wordF r := by
  apply ba_eq
  unfold wordF
  have h := runL_le partB r.data.toList
  rw [q_list, runL_paren _ part_paren]
  simp only [ByteArray.data_extract, Array.toList_extract, List.extract_eq_take_drop, List.drop_zero, Nat.sub_zero]
  rw [q_list, List.take_append_of_le_length h]
theorem q_next {bash : Bool} {a : Nat} (ha : a < s.size) : nextAt (s ++ parenR) bash a = nextAt s bash a := by
  unfold nextAt
  rw [q_rest ha, q_word, q_dollar ha, q_sign ha _ signs_paren, q_size, app_size]
  have e : s.size + 1 - ((restF s a).size + parenR.size) = s.size - (restF s a).size := by
    show s.size + 1 - ((restF s a).size + 1) = _
    omega
  rw [e, if_neg (show ¬ a = s.size + 1 by omega), if_neg (show ¬ a = s.size by omega)]
/-- The parenthesis. -/
theorem q_end (bash : Bool) : nextAt (s ++ parenR) bash s.size = ⟨3, sR, s.size, s.size + 1⟩ := by
  have ht : ((s ++ parenR).extract s.size (s ++ parenR).size).data.toList = [41] := by
    rw [tail_eq, q_list, List.drop_append_of_le_length (by rw [← Lib.size_eq]; exact Nat.le_refl _), List.drop_of_length_le (by rw [← Lib.size_eq]; exact Nat.le_refl _)]
    rfl
  have hd : dollarB (s ++ parenR) s.size = false := by
    unfold dollarB
    rw [ht]
    decide
  have hr : restF (s ++ parenR) s.size = parenR := by
    apply ba_eq
    unfold restF
    rw [ht]
    decide
  have hw : wordF parenR = em := by
    apply ba_eq
    unfold wordF
    rw [show runL partB parenR.data.toList = 0 from by decide]
    rfl
  have hn : nameOf em = false := by decide
  have hl : ((litOf em).2 == 0) = false := by
    cases h : ((litOf em).2 == 0) with
    | false => rfl
    | true => exact absurd (lit_pos h) (by decide)
  have hs : ∀ l, signGo (s ++ parenR) bash s.size l = (match l.find? (fun g => g.data.toList.isPrefixOf [41] && (bash || !inL bashesL g)) with
      | some g => ⟨3, g, s.size, s.size + g.size⟩
      | none => ⟨4, em, s.size, s.size + 1⟩ : Tok) := by
    intro l
    induction l with
    | nil => rfl
    | cons g l ih =>
      rw [signGo, List.find?_cons]
      unfold signOk Lib.hasPrefix
      rw [ht]
      cases g.data.toList.isPrefixOf [41] && (bash || !inL bashesL g) with
      | true => rfl
      | false => exact ih
  unfold nextAt
  rw [if_neg (by rw [q_size]; omega), hr, hw, hn, hd, hl, if_neg (by decide), if_neg (by decide), if_neg (by decide), hs]
  cases bash with
  | true => rw [show signsL.find? (fun g => g.data.toList.isPrefixOf [41] && (true || !inL bashesL g)) = some parenR from by decide]; rfl
  | false => rw [show signsL.find? (fun g => g.data.toList.isPrefixOf [41] && (false || !inL bashesL g)) = some parenR from by decide]; rfl
/-- The tokens of pre ++ s ++ ")". -/
theorem cl_tokens (pre : ByteArray) (bash : Bool) (hs : s.size ≤ 16384) : ∀ i, i ≤ s.size → nextF (pre ++ (s ++ parenR)) bash (i + pre.size) = clT pre.size s.size (nextF s bash i) := by
  intro i hi
  have hsk := skip_le s i hi
  rw [nextF_at, skip_app rfl, next_app rfl bash _ (by rw [q_skip hi, q_size]; omega), q_skip hi, nextF_at]
  unfold clT
  by_cases ha : skipF s i = s.size
  · rw [ha, q_end]
    have hk : (nextAt s bash s.size).kind = 0 := by
      unfold nextAt
      rw [if_pos rfl]
    rw [if_pos hk]
    unfold shT
    dsimp only
    rw [Nat.add_right_comm]
  · have hlt : skipF s i < s.size := by omega
    rw [q_next hlt]
    have hk : (nextAt s bash (skipF s i)).kind ≠ 0 := by
      intro e
      unfold nextAt at e
      rw [if_neg ha] at e
      split at e
      · cases e
      · split at e
        · cases e
        · split at e
          · cases e
          · exact absurd e (sign_ok hlt signsL signs_fine).2.2.1
    rw [if_neg hk]
end
end Go.Proofs.YtlbgnpllbogkeaaDoor.Ext
