/- Proved: the plain law of VarsShifts: shifted by some and then by some is as by both. Conditions: at most 2 to the 20 variables, arguments and texts in a variable. -/
import Derived.Test.YteoimkgjngdkdaaDoorVaP5
set_option linter.unusedVariables false
set_option linter.unusedSimpArgs false
namespace Go.Proofs.YteoimkgjngdkdaaDoor.PureV
open Go.RowKit Go.Proofs.YteoimkgjngdkdaaDoor.P Go.Proofs.YteoimkgjngdkdaaDoor.Ext Go.Proofs.YteoimkgjngdkdaaDoorW.PrintWords
theorem w1 (i : Nat) (h : i ≤ 4398046511104) : wrap64 (((i : Nat) : Int) + 1) = ((i + 1 : Nat) : Int) := by unfold wrap64; omega
theorem rd_get {xs : List S53} {i : Nat} (h : i < xs.length) : rd_T53 xs (i : Int) = xs[i] := by
  unfold rd_T53
  rw [Int.toNat_natCast, List.getD_eq_getElem?_getD, List.getElem?_eq_getElem h]
  rfl
theorem texts_copy (l : List ByteArray) (h : l.length ≤ 1048576) : cowrieplain_CopyTexts.f l = some l := by
  unfold cowrieplain_CopyTexts.f
  rw [if_pos (by simp; omega)]
  rfl
theorem vars_copy (xs : List S53) (hl : xs.length ≤ 1048576) (hf : ∀ x ∈ xs, x.f3.length ≤ 1048576) : ∀ (d i K : Nat), i + d = xs.length → d + 1 ≤ K → cowrieplain_CopyVars.l0 K xs (xs.take i) (i : Int) = some xs
  | 0, i, K, hd, hK => by
    obtain ⟨K, rfl⟩ : ∃ k, K = k + 1 := ⟨K - 1, by omega⟩
    rw [cowrieplain_CopyVars.l0, if_neg (by omega), List.take_of_length_le (by omega)]
  | d + 1, i, K, hd, hK => by
    obtain ⟨K, rfl⟩ : ∃ k, K = k + 1 := ⟨K - 1, by omega⟩
    have hil : i < xs.length := by omega
    rw [cowrieplain_CopyVars.l0, if_pos (by omega), if_pos (by omega), rd_get hil, texts_copy _ (hf _ (List.getElem_mem hil)), Option.bind_some, if_pos (by rw [List.length_take]; omega), w1 i (by omega), ← List.take_succ_eq_append_getElem hil]
    exact vars_copy xs hl hf d (i + 1) K (by omega) (by omega)
theorem of_some (xs : List S53) (rs : List ByteArray) (st : Int) (hl : xs.length ≤ 1048576) (hf : ∀ x ∈ xs, x.f3.length ≤ 1048576) (ha : rs.length ≤ 1048576) (K : Nat) (hK : 1048577 ≤ K) : cowrielaw20_Of.f K xs rs st = some (xs, rs, st) := by
  have h := vars_copy xs hl hf xs.length 0 K (by omega) (by omega)
  unfold cowrielaw20_Of.f cowrieplain_CopyVars.f
  rw [List.take_zero] at h
  have h' : cowrieplain_CopyVars.l0 K xs [] 0 = some xs := h
  rw [h', Option.bind_some, texts_copy rs ha, Option.bind_some]
/-- Without the first arguments. -/
def shiftB (xs : List S53) (rs : List ByteArray) (st n : Int) : List S53 × List ByteArray × Int × Bool := if n < 0 ∨ (rs.length : Int) < n then ([], [], 0, false) else (xs, rs.drop n.toNat, st, true)
theorem fits_of {xs : List S53} (hl : xs.length ≤ 1048576) (hf : ∀ x ∈ xs, x.f3.length ≤ 1048576) : fitsV xs = true := by
  unfold fitsV
  simp only [Bool.and_eq_true, decide_eq_true_eq, List.all_eq_true]
  exact ⟨by omega, fun x hx => by have := hf x hx; omega⟩
theorem shift_some (xs : List S53) (rs : List ByteArray) (st n : Int) (hfit : fitsV xs = true) (ha : rs.length ≤ 1048576) (K : Nat) : vars_Shift.f (K + 1) xs rs st n = some (shiftB xs rs st n) := by
  unfold vars_Shift.f shiftB
  by_cases h0 : n < 0
  · rw [if_pos h0, if_pos (.inl h0)]
    simp only [vars_Shift.j0]
    rw [if_pos trivial]
  · rw [if_neg h0]
    by_cases h1 : (rs.length : Int) < n
    · rw [if_pos (.inr h1), show decide (n > (rs.length : Int)) = true from decide_eq_true h1]
      simp only [vars_Shift.j0]
      rw [if_pos trivial]
    · rw [if_neg (fun h => h.elim h0 h1), show decide (n > (rs.length : Int)) = false from decide_eq_false h1, vars_Shift.j0, if_neg Bool.false_ne_true]
      unfold vars_own.f slices_Clone_string_string.f
      rw [if_pos hfit, Option.bind_some, if_pos (by omega), if_pos (by omega), if_pos (by rw [List.length_drop]; omega), Option.bind_some]
theorem texts_same (L : List ByteArray) (hL : L.length ≤ 1048576) : ∀ (d i K : Nat), i + d = L.length → d + 1 ≤ K → cowrieplain_SameTexts.l0 K L L (i : Int) = some true
  | 0, i, K, hd, hK => by
    obtain ⟨K, rfl⟩ : ∃ k, K = k + 1 := ⟨K - 1, by omega⟩
    rw [cowrieplain_SameTexts.l0, if_neg (by omega)]
  | d + 1, i, K, hd, hK => by
    obtain ⟨K, rfl⟩ : ∃ k, K = k + 1 := ⟨K - 1, by omega⟩
    rw [cowrieplain_SameTexts.l0, if_pos (by omega), if_pos (by omega), if_pos (by omega), if_pos rfl, w1 i (by omega)]
    exact texts_same L hL d (i + 1) K (by omega) (by omega)
theorem texts_self (L : List ByteArray) (hL : L.length ≤ 1048576) (K : Nat) (hK : 1048577 ≤ K) : cowrieplain_SameTexts.f K L L = some true := by
  unfold cowrieplain_SameTexts.f
  rw [if_pos rfl]
  exact texts_same L hL L.length 0 K (by omega) (by omega)
theorem vars_same (xs : List S53) (hl : xs.length ≤ 1048576) (hf : ∀ x ∈ xs, x.f3.length ≤ 1048576) : ∀ (d i K : Nat), i + d = xs.length → d + 1048578 ≤ K → cowrieplain_SameVars.l0 K xs xs (i : Int) = some true
  | 0, i, K, hd, hK => by
    obtain ⟨K, rfl⟩ : ∃ k, K = k + 1 := ⟨K - 1, by omega⟩
    rw [cowrieplain_SameVars.l0, if_neg (by omega)]
  | d + 1, i, K, hd, hK => by
    obtain ⟨K, rfl⟩ : ∃ k, K = k + 1 := ⟨K - 1, by omega⟩
    have hil : i < xs.length := by omega
    rw [cowrieplain_SameVars.l0, if_pos (by omega), if_pos (by omega), if_pos (by omega), if_pos rfl, if_pos rfl, if_neg (by simp), rd_get hil, texts_self _ (hf _ (List.getElem_mem hil)) K (by omega), Option.bind_some, if_pos rfl, w1 i (by omega)]
    exact vars_same xs hl hf d (i + 1) K (by omega) (by omega)
theorem vars_self (xs : List S53) (hl : xs.length ≤ 1048576) (hf : ∀ x ∈ xs, x.f3.length ≤ 1048576) (K : Nat) (hK : 2097154 ≤ K) : cowrieplain_SameVars.f K xs xs = some true := by
  unfold cowrieplain_SameVars.f
  rw [if_pos rfl]
  exact vars_same xs hl hf xs.length 0 K (by omega) (by omega)
theorem nine (a : Int) : ∃ m : Nat, m ≤ 8 ∧ Int.tmod (wrap64 (Int.tmod a 9 + 9)) 9 = (m : Int) := by
  have h1 := Int.tmod_lt_of_pos a (b := 9) (by decide)
  have h2 := Int.lt_tmod_of_pos a (b := 9) (by decide)
  have h3 : wrap64 (Int.tmod a 9 + 9) = Int.tmod a 9 + 9 := by
    generalize Int.tmod a 9 = x at *
    unfold wrap64
    omega
  rw [h3]
  obtain ⟨y, hy⟩ : ∃ y, y = Int.tmod a 9 + 9 := ⟨_, rfl⟩
  rw [← hy]
  have h4 : 0 ≤ Int.tmod y 9 := Int.tmod_nonneg 9 (by omega)
  have h5 := Int.tmod_lt_of_pos y (b := 9) (by decide)
  exact ⟨(Int.tmod y 9).toNat, by omega, by omega⟩
theorem VarsShiftsU (xs : List S53) (rs : List ByteArray) (st a b : Int) (hl : xs.length ≤ 1048576) (hf : ∀ x ∈ xs, x.f3.length ≤ 1048576) (ha : rs.length ≤ 1048576) : cowrielaw20_VarsShifts.f 3000001 xs rs st a b = some true := by
  obtain ⟨m, hm, em⟩ := nine a
  obtain ⟨n, hn, en⟩ := nine b
  have hfit := fits_of hl hf
  have hnil : fitsV ([] : List S53) = true := by decide
  have hw : wrap64 ((m : Int) + (n : Int)) = ((m + n : Nat) : Int) := by unfold wrap64; omega
  unfold cowrielaw20_VarsShifts.f
  rw [em, en, hw, show cowrielaw20_alive.f = some true from rfl, Option.bind_some, if_pos rfl, of_some xs rs st hl hf ha 3000001 (by omega), Option.bind_some]
  dsimp only
  rw [show (3000001 : Nat) = 3000000 + 1 from rfl, shift_some xs rs st m hfit ha, Option.bind_some]
  by_cases h1 : (rs.length : Int) < m
  · have e1 : shiftB xs rs st m = ([], [], 0, false) := by unfold shiftB; rw [if_pos (.inr h1)]
    have e2 : shiftB xs rs st ((m + n : Nat) : Int) = ([], [], 0, false) := by unfold shiftB; rw [if_pos (.inr (by omega))]
    rw [e1]
    dsimp only
    rw [shift_some [] [] 0 n hnil (by simp), Option.bind_some, Option.bind_some]
    dsimp only
    rw [shift_some xs rs st _ hfit ha, Option.bind_some, e2]
    dsimp only
    rw [if_neg (by simp), if_neg (by simp), decide_eq_true h1]
  · have e1 : shiftB xs rs st m = (xs, rs.drop m, st, true) := by unfold shiftB; rw [if_neg (by omega), Int.toNat_natCast]
    rw [e1]
    dsimp only
    have hd : (rs.drop m).length = rs.length - m := List.length_drop
    rw [shift_some xs (rs.drop m) st n hfit (by omega), Option.bind_some, Option.bind_some]
    dsimp only
    rw [shift_some xs rs st _ hfit ha, Option.bind_some, if_pos rfl]
    by_cases h2 : (rs.length : Int) < ((m + n : Nat) : Int)
    · have e2 : shiftB xs rs st ((m + n : Nat) : Int) = ([], [], 0, false) := by unfold shiftB; rw [if_pos (.inr h2)]
      have e3 : shiftB xs (rs.drop m) st n = ([], [], 0, false) := by unfold shiftB; rw [if_pos (.inr (by omega))]
      rw [e2, e3]
      dsimp only
      rw [if_pos (by rfl), if_neg (by simp)]
    · have e2 : shiftB xs rs st ((m + n : Nat) : Int) = (xs, rs.drop (m + n), st, true) := by unfold shiftB; rw [if_neg (by omega), Int.toNat_natCast]
      have e3 : shiftB xs (rs.drop m) st n = (xs, rs.drop (m + n), st, true) := by unfold shiftB; rw [if_neg (by omega), Int.toNat_natCast, List.drop_drop]
      rw [e2, e3]
      dsimp only
      rw [if_pos (by rfl), if_pos rfl, texts_self _ (by rw [List.length_drop]; omega) _ (by omega), Option.bind_some, if_pos rfl, vars_self xs hl hf _ (by omega), Option.bind_some]
end Go.Proofs.YteoimkgjngdkdaaDoor.PureV
