/- Proved: blanks ahead of a text change nothing but places (arith's parser, in plain Lean). No program's step. -/
import Derived.Test.YtlbgnpllbogkeaaDoorVbArTok
import Derived.Test.YtlbgnpllbogkeaaDoorVbArShift
import Derived.Test.YtlbgnpllbogkeaaDoorVbArParse
set_option linter.unusedVariables false
set_option linter.unusedSimpArgs false
namespace Go.Proofs.YtlbgnpllbogkeaaDoor.Ext
open Go.RowKit Go.Proofs.YtlbgnpllbogkeaaDoorW.PrintWords
theorem ba_eq {a b : ByteArray} (h : a.data.toList = b.data.toList) : a = b := ByteArray.ext (Array.ext' h)
theorem tail_eq (s : ByteArray) (a : Nat) : (s.extract a s.size).data.toList = s.data.toList.drop a := by
  rw [ByteArray.data_extract, Array.toList_extract, List.extract_eq_take_drop]
  rw [List.take_of_length_le]
  rw [List.length_drop, ← Lib.size_eq]
  exact Nat.le_refl _
theorem app_list (b s : ByteArray) : (b ++ s).data.toList = b.data.toList ++ s.data.toList := by simp
theorem app_size (b s : ByteArray) : (b ++ s).size = b.size + s.size := by simp
/-- The token, from where the blanks end. -/
def nextAt (s : ByteArray) (bash : Bool) (a : Nat) : Tok :=
  if a = s.size then ⟨0, em, a, a⟩
  else if nameOf (wordF (restF s a)) = true then ⟨2, wordF (restF s a), a, s.size - (restF s a).size + (wordF (restF s a)).size⟩
  else if (!dollarB s a && (litOf (wordF (restF s a))).2 == 0) = true then ⟨1, wordF (restF s a), a, s.size - (restF s a).size + (wordF (restF s a)).size⟩
  else if (dollarB s a || !((wordF (restF s a)).size == 0)) = true then ⟨4, wordF (restF s a), a, s.size - (restF s a).size + (wordF (restF s a)).size⟩
  else signGo s bash a signsL
theorem nextF_at (s : ByteArray) (bash : Bool) (i : Nat) : nextF s bash i = nextAt s bash (skipF s i) := rfl
section
variable {b s : ByteArray} {n : Nat}
theorem ext_app (hn : b.size = n) (a : Nat) : (b ++ s).extract (a + n) (b ++ s).size = s.extract a s.size := by
  apply ba_eq
  rw [tail_eq, tail_eq, app_list, List.drop_append, List.drop_of_length_le (by rw [← Lib.size_eq]; omega), List.nil_append, ← Lib.size_eq, hn, Nat.add_sub_cancel]
theorem rest_app (hn : b.size = n) (a : Nat) : restF (b ++ s) (a + n) = restF s a := by
  unfold restF
  rw [ext_app hn]
theorem dollar_app (hn : b.size = n) (a : Nat) : dollarB (b ++ s) (a + n) = dollarB s a := by
  unfold dollarB
  rw [ext_app hn]
theorem sign_app (hn : b.size = n) (bash : Bool) (a : Nat) : ∀ l, signGo (b ++ s) bash (a + n) l = shT n (signGo s bash a l)
  | [] => by
    rw [signGo, signGo]
    unfold shT
    dsimp only
    rw [Nat.add_right_comm]
  | g :: l => by
    rw [signGo, signGo]
    have h : signOk (b ++ s) bash (a + n) g = signOk s bash a g := by
      unfold signOk
      rw [ext_app hn]
    rw [h]
    split
    · unfold shT
      dsimp only
      rw [Nat.add_right_comm]
    · exact sign_app hn bash a l
theorem next_app (hn : b.size = n) (bash : Bool) (a : Nat) (ha : a ≤ s.size) : nextAt (b ++ s) bash (a + n) = shT n (nextAt s bash a) := by
  unfold nextAt
  rw [rest_app hn, dollar_app hn, app_size, hn, sign_app hn]
  have hr := rest_le s a
  have e : n + s.size - (restF s a).size + (wordF (restF s a)).size = s.size - (restF s a).size + (wordF (restF s a)).size + n := by omega
  rw [e]
  by_cases h : a = s.size
  · rw [if_pos (by omega), if_pos h]
    rfl
  · rw [if_neg (by omega), if_neg h]
    split
    · rfl
    · split
      · rfl
      · split
        · rfl
        · rfl
theorem skip_app (hn : b.size = n) (i : Nat) : skipF (b ++ s) (i + n) = skipF s i + n := by
  unfold skipF
  rw [app_list, List.drop_append, List.drop_of_length_le (by rw [← Lib.size_eq]; omega), List.nil_append, ← Lib.size_eq, hn, Nat.add_sub_cancel]
  omega
theorem sh_app (hn : b.size = n) (bash : Bool) : Sh (nextF s bash) (nextF (b ++ s) bash) n s.size := by
  intro i hi
  rw [nextF_at, nextF_at, skip_app hn, next_app hn bash _ (skip_le s i hi).2]
theorem runL_all {p : UInt8 → Bool} : ∀ {l r : List UInt8}, (∀ c ∈ l, p c = true) → runL p (l ++ r) = l.length + runL p r
  | [], r, _ => by simp
  | c :: l, r, h => by
    have h1 := h c List.mem_cons_self
    have ih := runL_all (r := r) (fun x hx => h x (List.mem_cons_of_mem c hx))
    unfold runL at ih ⊢
    rw [List.cons_append, List.takeWhile_cons, if_pos h1, List.length_cons, ih, List.length_cons]
    omega
theorem first_app (hn : b.size = n) (hb : ∀ c ∈ b.data.toList, blankB c = true) (bash : Bool) : nextF (b ++ s) bash 0 = shT n (nextF s bash 0) := by
  have h : skipF (b ++ s) 0 = skipF s 0 + n := by
    unfold skipF
    rw [List.drop_zero, List.drop_zero, app_list, runL_all hb, ← Lib.size_eq, hn]
    omega
  rw [nextF_at, nextF_at, h, next_app hn bash _ (skip_le s 0 (Nat.zero_le _)).2]
end
/-- A whole text: the same, places further on. -/
theorem top_sh {nx nx' : Nat → Tok} {lit : ByteArray → Int} {n L : Nat} (hx : Nx nx L) (hs : Sh nx nx' n L) (h0 : nx' 0 = shT n (nx 0)) :
    parseTop nx' lit (L + n) = ((parseTop nx lit L).1, (parseTop nx lit L).2.1 + n, (parseTop nx lit L).2.2) := by
  have ht0 : (nx 0).to_ ≤ L := hx.le (Nat.zero_le _)
  have hp := parse_sh (lit := lit) hx hs (20 * L + 100) .comma 0 (nx 0) ht0
  have hno := parse_some (lit := lit) hx
  have hno2 : parse nx' lit (20 * L + 100) .comma 0 (shT n (nx 0)) ≠ .out := by
    rw [hp]
    cases h : parse nx lit (20 * L + 100) .comma 0 (nx 0) with
    | out => exact absurd h hno
    | fault a e => intro e; cases e
    | ok x t => intro e; cases e
  have hm := parse_more (k' := 20 * (L + n) + 100) (by omega) hno2
  unfold parseTop
  rw [h0, hm, hp]
  show (if (nx 0).kind = 0 then _ else _) = _
  by_cases hk : (nx 0).kind = 0
  · rw [if_pos hk, if_pos hk]
  · rw [if_neg hk, if_neg hk]
    cases h : parse nx lit (20 * L + 100) .comma 0 (nx 0) with
    | out => exact absurd h hno
    | fault a e => rfl
    | ok x t =>
      show (if t.kind ≠ 0 then _ else _) = _
      dsimp only
      split
      · rfl
      · split <;> rfl
theorem blanks_same (b s : ByteArray) (bash : Bool) (hb : ∀ c ∈ b.data.toList, blankB c = true) (hs : s.size ≤ 16000) (hn : b.size ≤ 8) :
    parseS (b ++ s) bash = ((parseS s bash).1, (parseS s bash).2.1 + b.size, (parseS s bash).2.2) := by
  unfold parseS
  rw [if_neg (by rw [app_size]; omega), if_neg (by omega), app_size, Nat.add_comm b.size s.size]
  exact top_sh (next_nx s bash (by omega)) (sh_app rfl bash) (first_app rfl hb bash)
end Go.Proofs.YtlbgnpllbogkeaaDoor.Ext
