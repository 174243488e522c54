/- Proved: helpers for the plain law of VarsBack. -/
import Derived.Test.YteoimkgjngdkdaaDoorVcT3
import Derived.Test.YteoimkgjngdkdaaDoorVcTextV
set_option linter.unusedVariables false
set_option linter.unusedSimpArgs false
namespace Go.Proofs.YteoimkgjngdkdaaDoor.PureL
open Go.RowKit Go.Proofs.YteoimkgjngdkdaaDoor.P Go.Proofs.YteoimkgjngdkdaaDoor.Ext Go.Proofs.YteoimkgjngdkdaaDoorW.PrintWords
theorem w1 (i : Nat) (h : i ≤ 4398046511104) : wrap64 (((i : Nat) : Int) + 1) = ((i + 1 : Nat) : Int) := by unfold wrap64; omega
theorem rd_get {xs : List S53} {i : Nat} (h : i < xs.length) : rd_T53 xs (i : Int) = xs[i] := by
  unfold rd_T53
  rw [Int.toNat_natCast, List.getD_eq_getElem?_getD, List.getElem?_eq_getElem h]
  rfl
theorem rd_at (l : List ByteArray) (i : Nat) (h : i < l.length) : rdOf ByteArray.empty l (i : Int) = l[i] := by
  unfold rdOf
  rw [Int.toNat_natCast, List.getD_eq_getElem?_getD, List.getElem?_eq_getElem h]
  rfl
theorem num_ok (e : Int) : P.cowrielaw20_num.f e = some e := rfl
theorem texts_copy (l : List ByteArray) (h : l.length ≤ 1048576) : T.cowrieplain_CopyTexts.f l = some l := by
  unfold T.cowrieplain_CopyTexts.f
  rw [if_pos (by simp; omega)]
  rfl
theorem vars_copy (xs : List S53) (hl : xs.length ≤ 1048576) (hf : ∀ x ∈ xs, x.f3.length ≤ 1048576) : ∀ (d i K : Nat), i + d = xs.length → d + 1 ≤ K → T.cowrieplain_CopyVars.l0 K xs (xs.take i) (i : Int) = some xs
  | 0, i, K, hd, hK => by
    obtain ⟨K, rfl⟩ : ∃ k, K = k + 1 := ⟨K - 1, by omega⟩
    rw [T.cowrieplain_CopyVars.l0, if_neg (by omega), List.take_of_length_le (by omega)]
  | d + 1, i, K, hd, hK => by
    obtain ⟨K, rfl⟩ : ∃ k, K = k + 1 := ⟨K - 1, by omega⟩
    have hil : i < xs.length := by omega
    rw [T.cowrieplain_CopyVars.l0, if_pos (by omega), if_pos (by omega), rd_get hil, texts_copy _ (hf _ (List.getElem_mem hil)), Option.bind_some, if_pos (by rw [List.length_take]; omega), w1 i (by omega), ← List.take_succ_eq_append_getElem hil]
    exact vars_copy xs hl hf d (i + 1) K (by omega) (by omega)
theorem of_some (xs : List S53) (rs : List ByteArray) (st : Int) (hl : xs.length ≤ 1048576) (hf : ∀ x ∈ xs, x.f3.length ≤ 1048576) (ha : rs.length ≤ 1048576) (K : Nat) (hK : 1048577 ≤ K) : T.cowrielaw20_Of.f K xs rs st = some (xs, rs, st) := by
  have h := vars_copy xs hl hf xs.length 0 K (by omega) (by omega)
  unfold T.cowrielaw20_Of.f T.cowrieplain_CopyVars.f
  rw [List.take_zero] at h
  have h' : T.cowrieplain_CopyVars.l0 K xs [] 0 = some xs := h
  rw [h', Option.bind_some, texts_copy rs ha, Option.bind_some]
theorem text_total (s : ByteArray) (hs : s.size ≤ 1048576) : ∀ (d i K : Nat), i + d = s.size → d + 1 ≤ K → ∃ r, T.cowrieref20_text.l0 K s (i : Int) = some r
  | 0, i, K, hd, hK => by
    obtain ⟨K, rfl⟩ : ∃ k, K = k + 1 := ⟨K - 1, by omega⟩
    rw [T.cowrieref20_text.l0, if_neg (by omega)]
    split <;> exact ⟨_, rfl⟩
  | d + 1, i, K, hd, hK => by
    obtain ⟨K, rfl⟩ : ∃ k, K = k + 1 := ⟨K - 1, by omega⟩
    rw [T.cowrieref20_text.l0, if_pos (by omega), if_pos (by omega)]
    split
    · exact ⟨_, rfl⟩
    · rw [w1 i (by omega)]
      exact text_total s hs d (i + 1) K (by omega) (by omega)
theorem text_f (s : ByteArray) (hs : s.size ≤ 1048576) (K : Nat) (hK : 1048577 ≤ K) : ∃ r, T.cowrieref20_text.f K s = some r := text_total s hs s.size 0 K (by omega) (by omega)
theorem texts_total (l : List ByteArray) (hl : l.length ≤ 1048576) (hs : ∀ x ∈ l, x.size ≤ 1048576) : ∀ (d i K : Nat), i + d = l.length → d + 1048578 ≤ K → ∃ r, T.cowrieref20_texts.l0 K l (i : Int) = some r
  | 0, i, K, hd, hK => by
    obtain ⟨K, rfl⟩ : ∃ k, K = k + 1 := ⟨K - 1, by omega⟩
    rw [T.cowrieref20_texts.l0, if_neg (by omega)]
    exact ⟨_, rfl⟩
  | d + 1, i, K, hd, hK => by
    obtain ⟨K, rfl⟩ : ∃ k, K = k + 1 := ⟨K - 1, by omega⟩
    have hil : i < l.length := by omega
    obtain ⟨r, hr⟩ := text_f l[i] (hs _ (List.getElem_mem hil)) K (by omega)
    rw [T.cowrieref20_texts.l0, if_pos (by omega), if_pos (by omega), rd_at l i hil, hr, Option.bind_some]
    split
    · rw [w1 i (by omega)]
      exact texts_total l hl hs d (i + 1) K (by omega) (by omega)
    · exact ⟨_, rfl⟩
theorem texts_f (l : List ByteArray) (hl : l.length ≤ 1048576) (hs : ∀ x ∈ l, x.size ≤ 1048576) (K : Nat) (hK : 2097154 ≤ K) : ∃ r, T.cowrieref20_texts.f K l = some r := texts_total l hl hs l.length 0 K (by omega) (by omega)
theorem letter_total (c : Int) : ∃ b, T.cowrieref01_letter.f c = some b := by
  unfold T.cowrieref01_letter.f
  repeat' split
  all_goals exact ⟨_, rfl⟩
theorem digit_total (c : Int) : ∃ b, T.cowrieref01_digit.f c = some b := by
  unfold T.cowrieref01_digit.f
  split <;> exact ⟨_, rfl⟩
theorem name_total (s : ByteArray) (hs : s.size ≤ 1048576) : ∀ (d i K : Nat), i + d = s.size → d + 1 ≤ K → ∃ r, T.cowrieref01_Name.l0 K s (i : Int) = some r
  | 0, i, K, hd, hK => by
    obtain ⟨K, rfl⟩ : ∃ k, K = k + 1 := ⟨K - 1, by omega⟩
    rw [T.cowrieref01_Name.l0, if_neg (by omega)]
    split <;> exact ⟨_, rfl⟩
  | d + 1, i, K, hd, hK => by
    obtain ⟨K, rfl⟩ : ∃ k, K = k + 1 := ⟨K - 1, by omega⟩
    obtain ⟨b1, h1⟩ := letter_total (bt s (i : Int))
    obtain ⟨b2, h2⟩ := digit_total (bt s (i : Int))
    have ih := name_total s hs d (i + 1) K (by omega) (by omega)
    rw [T.cowrieref01_Name.l0, if_pos (by omega), if_pos (by omega), h1, h2, Option.bind_some, Option.bind_some, w1 i (by omega)]
    split
    · exact ih
    · split
      · exact ⟨_, rfl⟩
      · split
        · exact ih
        · exact ⟨_, rfl⟩
theorem name_f (s : ByteArray) (hs : s.size ≤ 1048576) (K : Nat) (hK : 1048577 ≤ K) : ∃ r, T.cowrieref01_Name.f K s = some r := name_total s hs s.size 0 K (by omega) (by omega)
theorem check_l1 (xs : List S53) (rs : List ByteArray) (st : Int) (a b : ByteArray) (c : Bool) (t : List ByteArray) (i K0 : Nat) (hi : i < xs.length) (hl : xs.length ≤ 1048576) (hn : ∀ K, K0 ≤ K → ∃ r, T.cowrieref20_Check.l0 K ((i + 1 : Nat) : Int) xs rs st = some r) :
    ∀ (d j K : Nat), j + d = i → K0 + d + 1 ≤ K → ∃ r, T.cowrieref20_Check.l1 K (i : Int) (j : Int) xs rs st a b c t = some r
  | 0, j, K, hd, hK => by
    obtain ⟨K, rfl⟩ : ∃ k, K = k + 1 := ⟨K - 1, by omega⟩
    rw [T.cowrieref20_Check.l1, if_neg (by omega), w1 i (by omega)]
    exact hn K (by omega)
  | d + 1, j, K, hd, hK => by
    obtain ⟨K, rfl⟩ : ∃ k, K = k + 1 := ⟨K - 1, by omega⟩
    rw [T.cowrieref20_Check.l1, if_pos (by omega), if_pos (by omega), if_pos (by omega)]
    split
    · exact ⟨_, rfl⟩
    · rw [w1 j (by omega)]
      exact check_l1 xs rs st a b c t i K0 hi hl hn d (j + 1) K (by omega) (by omega)
theorem check_l0 (xs : List S53) (rs : List ByteArray) (st : Int) (hl : xs.length ≤ 1024) (hf : ∀ x ∈ xs, x.f3.length ≤ 1048576 ∧ x.f0.size ≤ 1048576 ∧ x.f1.size ≤ 1048576 ∧ ∀ y ∈ x.f3, y.size ≤ 1048576) (M c : Nat) (hM : 4000000 ≤ M) (hc : 2000 ≤ c) : ∀ (d i K : Nat), i + d = xs.length → d * c + M ≤ K → ∃ r, T.cowrieref20_Check.l0 K (i : Int) xs rs st = some r
  | 0, i, K, hd, hK => by
    obtain ⟨K, rfl⟩ : ∃ k, K = k + 1 := ⟨K - 1, by omega⟩
    rw [T.cowrieref20_Check.l0, if_neg (by omega)]
    exact ⟨_, rfl⟩
  | d + 1, i, K, hd, hK => by
    have hpos : 1 ≤ K := by omega
    obtain ⟨K, rfl⟩ : ∃ k, K = k + 1 := ⟨K - 1, by omega⟩
    have hil : i < xs.length := by omega
    have hmul : (d + 1) * c = d * c + c := Nat.succ_mul d c
    rw [hmul] at hK
    obtain ⟨g1, g2, g3, g4⟩ := hf _ (List.getElem_mem hil)
    have hj : ∀ b x y z u, ∃ r, T.cowrieref20_Check.j2 K (i : Int) b xs rs st x y z u = some r := fun b x y z u => by
      obtain ⟨K, rfl⟩ : ∃ k, K = k + 1 := ⟨K - 1, by omega⟩
      rw [T.cowrieref20_Check.j2]
      split
      · exact ⟨_, rfl⟩
      · exact check_l1 xs rs st x y z u i (d * c + M) hil (by omega) (fun K' hK' => check_l0 xs rs st hl hf M c hM hc d (i + 1) K' (by omega) hK') i 0 K (by omega) (by omega)
    obtain ⟨n1, h1⟩ := name_f xs[i].f0 g2 K (by omega)
    obtain ⟨n2, h2⟩ := text_f xs[i].f1 g3 K (by omega)
    obtain ⟨n3, h3⟩ := texts_f xs[i].f3 g1 g4 K (by omega)
    rw [T.cowrieref20_Check.l0, if_pos (by omega), if_pos (by omega), rd_get hil, h1, Option.bind_some, h2, Option.bind_some, h3, Option.bind_some]
    repeat' split
    all_goals exact hj _ _ _ _ _
theorem check_total (xs : List S53) (rs : List ByteArray) (st : Int) (hr : rs.length ≤ 1048576) (hrs : ∀ y ∈ rs, y.size ≤ 1048576) (hf : ∀ x ∈ xs, x.f3.length ≤ 1048576 ∧ x.f0.size ≤ 1048576 ∧ x.f1.size ≤ 1048576 ∧ ∀ y ∈ x.f3, y.size ≤ 1048576) (K : Nat) (hK : 50000000 ≤ K) : ∃ r, T.cowrieref20_Check.f K xs rs st = some r := by
  obtain ⟨K, rfl⟩ : ∃ k, K = k + 1 := ⟨K - 1, by omega⟩
  obtain ⟨n1, h1⟩ := texts_f rs hr hrs (K + 1) (by omega)
  have ht : ∃ r, T.cowrieref20_Check.j0 (K + 1) true xs rs st = some r := by
    rw [T.cowrieref20_Check.j0, if_pos rfl]
    exact ⟨_, rfl⟩
  unfold T.cowrieref20_Check.f
  by_cases hl : (xs.length : Int) > 1024
  · rw [if_pos hl]
    exact ht
  · have hj : ∀ b, ∃ r, T.cowrieref20_Check.j0 (K + 1) b xs rs st = some r := fun b => by
      cases b
      · rw [T.cowrieref20_Check.j0, if_neg Bool.false_ne_true]
        exact check_l0 xs rs st (by omega) hf 5000000 2000 (by omega) (by omega) xs.length 0 K (by omega) (by omega)
      · exact ht
    rw [if_neg hl, h1, Option.bind_some]
    repeat' split
    all_goals exact hj _
theorem idx_set (s : ByteArray) (v : S53) (hv : v.f0.toList = s.toList) : ∀ (l : List S53) (i k : Nat), idxV s l i = ((i + k : Nat) : Int) → k < l.length → idxV s (l.set k v) i = ((i + k : Nat) : Int)
  | [], i, k, h, hk => by simp at hk
  | p :: l, i, k, h, hk => by
    unfold idxV at h
    by_cases hp : (p.f0.toList == s.toList) = true
    · rw [if_pos hp] at h
      obtain rfl : k = 0 := by omega
      rw [List.set_cons_zero, idxV, if_pos (by rw [hv]; exact beq_self_eq_true _), Nat.add_zero]
    · rw [if_neg hp] at h
      rcases idxV_spec s l (i + 1) with h1 | ⟨k', q, h1, _, _⟩
      · omega
      · obtain ⟨m, rfl⟩ : ∃ m, k = m + 1 := ⟨k - 1, by omega⟩
        rw [List.set_cons_succ, idxV, if_neg hp, idx_set s v hv l (i + 1) m (by rw [h]; congr 1; omega) (by simpa using hk)]
        congr 1
        omega
theorem idx_append (s : ByteArray) (v : S53) (hv : v.f0.toList = s.toList) : ∀ (l : List S53) (i : Nat), idxV s l i = -1 → idxV s (l ++ [v]) i = ((i + l.length : Nat) : Int)
  | [], i, h => by
    rw [List.nil_append, idxV, if_pos (by rw [hv]; exact beq_self_eq_true _)]
    rfl
  | p :: l, i, h => by
    unfold idxV at h
    by_cases hp : (p.f0.toList == s.toList) = true
    · rw [if_pos hp] at h
      omega
    · rw [if_neg hp] at h
      rw [List.cons_append, idxV, if_neg hp, idx_append s v hv l (i + 1) h]
      congr 1
      simp
      omega
/-- A store in which the first variable of a name is v. -/
def HasV (s : ByteArray) (xs : List S53) (v : S53) : Prop := ∃ k : Nat, idxV s xs 0 = (k : Int) ∧ xs[k]? = some v
theorem ask_total (l : List ByteArray) (hl : l.length ≤ 1048576) : ∀ (d i K : Nat), i + d = l.length → d + 1 ≤ K → ∃ r, P.vars_ask.l0 K l (l.length : Int) (i : Int) = some r
  | 0, i, K, hd, hK => by
    obtain ⟨K, rfl⟩ : ∃ k, K = k + 1 := ⟨K - 1, by omega⟩
    rw [P.vars_ask.l0, if_neg (by omega)]
    exact ⟨_, rfl⟩
  | d + 1, i, K, hd, hK => by
    obtain ⟨K, rfl⟩ : ∃ k, K = k + 1 := ⟨K - 1, by omega⟩
    have hil : i < l.length := by omega
    rw [P.vars_ask.l0, if_pos (by omega), if_pos (by omega), if_pos (by omega), rd_at l i hil]
    unfold strings_IndexByte.f
    rw [Option.bind_some]
    split
    · exact ⟨_, rfl⟩
    · split
      · exact ⟨_, rfl⟩
      · rw [w1 i (by omega)]
        exact ask_total l hl d (i + 1) K (by omega) (by omega)
theorem ask_f (l : List ByteArray) (hl : l.length ≤ 1048576) (K : Nat) (hK : 1048577 ≤ K) : ∃ r, P.vars_ask.f K l = some r := ask_total l hl l.length 0 K (by omega) (by omega)
theorem name_some (s : ByteArray) (h : s.size ≤ 1000000000) : octets_Name.f s = some (nameOk s) := by
  unfold octets_Name.f nameOk
  rw [if_pos h]
end Go.Proofs.YteoimkgjngdkdaaDoor.PureL
