/- Proved: the plain law of VarsLists: a list that was put is told; an element of it, put, is told in its place. Conditions: at most 2 to the 20 variables, arguments, texts in a list and octets in a text. -/
import Derived.Test.YteoimkgjngdkdaaDoorVbU3
set_option linter.unusedVariables false
set_option linter.unusedSimpArgs false
namespace Go.Proofs.YteoimkgjngdkdaaDoor.PureL
open Go.RowKit Go.Proofs.YteoimkgjngdkdaaDoor.P Go.Proofs.YteoimkgjngdkdaaDoor.Ext Go.Proofs.YteoimkgjngdkdaaDoorW.PrintWords
theorem w1 (i : Nat) (h : i ≤ 4398046511104) : wrap64 (((i : Nat) : Int) + 1) = ((i + 1 : Nat) : Int) := by unfold wrap64; omega
theorem rd_get {xs : List S53} {i : Nat} (h : i < xs.length) : rd_T53 xs (i : Int) = xs[i] := by
  unfold rd_T53
  rw [Int.toNat_natCast, List.getD_eq_getElem?_getD, List.getElem?_eq_getElem h]
  rfl
theorem rd_at (l : List ByteArray) (i : Nat) (h : i < l.length) : rdOf ByteArray.empty l (i : Int) = l[i] := by
  unfold rdOf
  rw [Int.toNat_natCast, List.getD_eq_getElem?_getD, List.getElem?_eq_getElem h]
  rfl
theorem num_ok (e : Int) : U.cowrielaw20_num.f e = some e := rfl
theorem texts_copy (l : List ByteArray) (h : l.length ≤ 1048576) : U.cowrieplain_CopyTexts.f l = some l := by
  unfold U.cowrieplain_CopyTexts.f
  rw [if_pos (by simp; omega)]
  rfl
theorem vars_copy (xs : List S53) (hl : xs.length ≤ 1048576) (hf : ∀ x ∈ xs, x.f3.length ≤ 1048576) : ∀ (d i K : Nat), i + d = xs.length → d + 1 ≤ K → U.cowrieplain_CopyVars.l0 K xs (xs.take i) (i : Int) = some xs
  | 0, i, K, hd, hK => by
    obtain ⟨K, rfl⟩ : ∃ k, K = k + 1 := ⟨K - 1, by omega⟩
    rw [U.cowrieplain_CopyVars.l0, if_neg (by omega), List.take_of_length_le (by omega)]
  | d + 1, i, K, hd, hK => by
    obtain ⟨K, rfl⟩ : ∃ k, K = k + 1 := ⟨K - 1, by omega⟩
    have hil : i < xs.length := by omega
    rw [U.cowrieplain_CopyVars.l0, if_pos (by omega), if_pos (by omega), rd_get hil, texts_copy _ (hf _ (List.getElem_mem hil)), Option.bind_some, if_pos (by rw [List.length_take]; omega), w1 i (by omega), ← List.take_succ_eq_append_getElem hil]
    exact vars_copy xs hl hf d (i + 1) K (by omega) (by omega)
theorem of_some (xs : List S53) (rs : List ByteArray) (st : Int) (hl : xs.length ≤ 1048576) (hf : ∀ x ∈ xs, x.f3.length ≤ 1048576) (ha : rs.length ≤ 1048576) (K : Nat) (hK : 1048577 ≤ K) : U.cowrielaw20_Of.f K xs rs st = some (xs, rs, st) := by
  have h := vars_copy xs hl hf xs.length 0 K (by omega) (by omega)
  unfold U.cowrielaw20_Of.f U.cowrieplain_CopyVars.f
  rw [List.take_zero] at h
  have h' : U.cowrieplain_CopyVars.l0 K xs [] 0 = some xs := h
  rw [h', Option.bind_some, texts_copy rs ha, Option.bind_some]
theorem texts_same (L : List ByteArray) (hL : L.length ≤ 1048576) : ∀ (d i K : Nat), i + d = L.length → d + 1 ≤ K → U.cowrieplain_SameTexts.l0 K L L (i : Int) = some true
  | 0, i, K, hd, hK => by
    obtain ⟨K, rfl⟩ : ∃ k, K = k + 1 := ⟨K - 1, by omega⟩
    rw [U.cowrieplain_SameTexts.l0, if_neg (by omega)]
  | d + 1, i, K, hd, hK => by
    obtain ⟨K, rfl⟩ : ∃ k, K = k + 1 := ⟨K - 1, by omega⟩
    rw [U.cowrieplain_SameTexts.l0, if_pos (by omega), if_pos (by omega), if_pos (by omega), if_pos rfl, w1 i (by omega)]
    exact texts_same L hL d (i + 1) K (by omega) (by omega)
theorem texts_self (L : List ByteArray) (hL : L.length ≤ 1048576) (K : Nat) (hK : 1048577 ≤ K) : U.cowrieplain_SameTexts.f K L L = some true := by
  unfold U.cowrieplain_SameTexts.f
  rw [if_pos rfl]
  exact texts_same L hL L.length 0 K (by omega) (by omega)
theorem text_total (s : ByteArray) (hs : s.size ≤ 1048576) : ∀ (d i K : Nat), i + d = s.size → d + 1 ≤ K → ∃ r, U.cowrieref20_text.l0 K s (i : Int) = some r
  | 0, i, K, hd, hK => by
    obtain ⟨K, rfl⟩ : ∃ k, K = k + 1 := ⟨K - 1, by omega⟩
    rw [U.cowrieref20_text.l0, if_neg (by omega)]
    split <;> exact ⟨_, rfl⟩
  | d + 1, i, K, hd, hK => by
    obtain ⟨K, rfl⟩ : ∃ k, K = k + 1 := ⟨K - 1, by omega⟩
    rw [U.cowrieref20_text.l0, if_pos (by omega), if_pos (by omega)]
    split
    · exact ⟨_, rfl⟩
    · rw [w1 i (by omega)]
      exact text_total s hs d (i + 1) K (by omega) (by omega)
theorem text_f (s : ByteArray) (hs : s.size ≤ 1048576) (K : Nat) (hK : 1048577 ≤ K) : ∃ r, U.cowrieref20_text.f K s = some r := text_total s hs s.size 0 K (by omega) (by omega)
theorem texts_total (l : List ByteArray) (hl : l.length ≤ 1048576) (hs : ∀ x ∈ l, x.size ≤ 1048576) : ∀ (d i K : Nat), i + d = l.length → d + 1048578 ≤ K → ∃ r, U.cowrieref20_texts.l0 K l (i : Int) = some r
  | 0, i, K, hd, hK => by
    obtain ⟨K, rfl⟩ : ∃ k, K = k + 1 := ⟨K - 1, by omega⟩
    rw [U.cowrieref20_texts.l0, if_neg (by omega)]
    exact ⟨_, rfl⟩
  | d + 1, i, K, hd, hK => by
    obtain ⟨K, rfl⟩ : ∃ k, K = k + 1 := ⟨K - 1, by omega⟩
    have hil : i < l.length := by omega
    obtain ⟨r, hr⟩ := text_f l[i] (hs _ (List.getElem_mem hil)) K (by omega)
    rw [U.cowrieref20_texts.l0, if_pos (by omega), if_pos (by omega), rd_at l i hil, hr, Option.bind_some]
    split
    · rw [w1 i (by omega)]
      exact texts_total l hl hs d (i + 1) K (by omega) (by omega)
    · exact ⟨_, rfl⟩
theorem texts_f (l : List ByteArray) (hl : l.length ≤ 1048576) (hs : ∀ x ∈ l, x.size ≤ 1048576) (K : Nat) (hK : 2097154 ≤ K) : ∃ r, U.cowrieref20_texts.f K l = some r := texts_total l hl hs l.length 0 K (by omega) (by omega)
theorem letter_total (c : Int) : ∃ b, U.cowrieref01_letter.f c = some b := by
  unfold U.cowrieref01_letter.f
  repeat' split
  all_goals exact ⟨_, rfl⟩
theorem digit_total (c : Int) : ∃ b, U.cowrieref01_digit.f c = some b := by
  unfold U.cowrieref01_digit.f
  split <;> exact ⟨_, rfl⟩
theorem name_total (s : ByteArray) (hs : s.size ≤ 1048576) : ∀ (d i K : Nat), i + d = s.size → d + 1 ≤ K → ∃ r, U.cowrieref01_Name.l0 K s (i : Int) = some r
  | 0, i, K, hd, hK => by
    obtain ⟨K, rfl⟩ : ∃ k, K = k + 1 := ⟨K - 1, by omega⟩
    rw [U.cowrieref01_Name.l0, if_neg (by omega)]
    split <;> exact ⟨_, rfl⟩
  | d + 1, i, K, hd, hK => by
    obtain ⟨K, rfl⟩ : ∃ k, K = k + 1 := ⟨K - 1, by omega⟩
    obtain ⟨b1, h1⟩ := letter_total (bt s (i : Int))
    obtain ⟨b2, h2⟩ := digit_total (bt s (i : Int))
    have ih := name_total s hs d (i + 1) K (by omega) (by omega)
    rw [U.cowrieref01_Name.l0, if_pos (by omega), if_pos (by omega), h1, h2, Option.bind_some, Option.bind_some, w1 i (by omega)]
    split
    · exact ih
    · split
      · exact ⟨_, rfl⟩
      · split
        · exact ih
        · exact ⟨_, rfl⟩
theorem name_f (s : ByteArray) (hs : s.size ≤ 1048576) (K : Nat) (hK : 1048577 ≤ K) : ∃ r, U.cowrieref01_Name.f K s = some r := name_total s hs s.size 0 K (by omega) (by omega)
theorem check_l1 (xs : List S53) (rs : List ByteArray) (st : Int) (a b : ByteArray) (c : Bool) (t : List ByteArray) (i K0 : Nat) (hi : i < xs.length) (hl : xs.length ≤ 1048576) (hn : ∀ K, K0 ≤ K → ∃ r, U.cowrieref20_Check.l0 K ((i + 1 : Nat) : Int) xs rs st = some r) :
    ∀ (d j K : Nat), j + d = i → K0 + d + 1 ≤ K → ∃ r, U.cowrieref20_Check.l1 K (i : Int) (j : Int) xs rs st a b c t = some r
  | 0, j, K, hd, hK => by
    obtain ⟨K, rfl⟩ : ∃ k, K = k + 1 := ⟨K - 1, by omega⟩
    rw [U.cowrieref20_Check.l1, if_neg (by omega), w1 i (by omega)]
    exact hn K (by omega)
  | d + 1, j, K, hd, hK => by
    obtain ⟨K, rfl⟩ : ∃ k, K = k + 1 := ⟨K - 1, by omega⟩
    rw [U.cowrieref20_Check.l1, if_pos (by omega), if_pos (by omega), if_pos (by omega)]
    split
    · exact ⟨_, rfl⟩
    · rw [w1 j (by omega)]
      exact check_l1 xs rs st a b c t i K0 hi hl hn d (j + 1) K (by omega) (by omega)
theorem check_l0 (xs : List S53) (rs : List ByteArray) (st : Int) (hl : xs.length ≤ 1024) (hf : ∀ x ∈ xs, x.f3.length ≤ 1048576 ∧ x.f0.size ≤ 1048576 ∧ x.f1.size ≤ 1048576 ∧ ∀ y ∈ x.f3, y.size ≤ 1048576) (M c : Nat) (hM : 4000000 ≤ M) (hc : 2000 ≤ c) : ∀ (d i K : Nat), i + d = xs.length → d * c + M ≤ K → ∃ r, U.cowrieref20_Check.l0 K (i : Int) xs rs st = some r
  | 0, i, K, hd, hK => by
    obtain ⟨K, rfl⟩ : ∃ k, K = k + 1 := ⟨K - 1, by omega⟩
    rw [U.cowrieref20_Check.l0, if_neg (by omega)]
    exact ⟨_, rfl⟩
  | d + 1, i, K, hd, hK => by
    have hpos : 1 ≤ K := by omega
    obtain ⟨K, rfl⟩ : ∃ k, K = k + 1 := ⟨K - 1, by omega⟩
    have hil : i < xs.length := by omega
    have hmul : (d + 1) * c = d * c + c := Nat.succ_mul d c
    rw [hmul] at hK
    obtain ⟨g1, g2, g3, g4⟩ := hf _ (List.getElem_mem hil)
    have hj : ∀ b x y z u, ∃ r, U.cowrieref20_Check.j2 K (i : Int) b xs rs st x y z u = some r := fun b x y z u => by
      obtain ⟨K, rfl⟩ : ∃ k, K = k + 1 := ⟨K - 1, by omega⟩
      rw [U.cowrieref20_Check.j2]
      split
      · exact ⟨_, rfl⟩
      · exact check_l1 xs rs st x y z u i (d * c + M) hil (by omega) (fun K' hK' => check_l0 xs rs st hl hf M c hM hc d (i + 1) K' (by omega) hK') i 0 K (by omega) (by omega)
    obtain ⟨n1, h1⟩ := name_f xs[i].f0 g2 K (by omega)
    obtain ⟨n2, h2⟩ := text_f xs[i].f1 g3 K (by omega)
    obtain ⟨n3, h3⟩ := texts_f xs[i].f3 g1 g4 K (by omega)
    rw [U.cowrieref20_Check.l0, if_pos (by omega), if_pos (by omega), rd_get hil, h1, Option.bind_some, h2, Option.bind_some, h3, Option.bind_some]
    repeat' split
    all_goals exact hj _ _ _ _ _
theorem check_total (xs : List S53) (rs : List ByteArray) (st : Int) (hr : rs.length ≤ 1048576) (hrs : ∀ y ∈ rs, y.size ≤ 1048576) (hf : ∀ x ∈ xs, x.f3.length ≤ 1048576 ∧ x.f0.size ≤ 1048576 ∧ x.f1.size ≤ 1048576 ∧ ∀ y ∈ x.f3, y.size ≤ 1048576) (K : Nat) (hK : 50000000 ≤ K) : ∃ r, U.cowrieref20_Check.f K xs rs st = some r := by
  obtain ⟨K, rfl⟩ : ∃ k, K = k + 1 := ⟨K - 1, by omega⟩
  obtain ⟨n1, h1⟩ := texts_f rs hr hrs (K + 1) (by omega)
  have ht : ∃ r, U.cowrieref20_Check.j0 (K + 1) true xs rs st = some r := by
    rw [U.cowrieref20_Check.j0, if_pos rfl]
    exact ⟨_, rfl⟩
  unfold U.cowrieref20_Check.f
  by_cases hl : (xs.length : Int) > 1024
  · rw [if_pos hl]
    exact ht
  · have hj : ∀ b, ∃ r, U.cowrieref20_Check.j0 (K + 1) b xs rs st = some r := fun b => by
      cases b
      · rw [U.cowrieref20_Check.j0, if_neg Bool.false_ne_true]
        exact check_l0 xs rs st (by omega) hf 5000000 2000 (by omega) (by omega) xs.length 0 K (by omega) (by omega)
      · exact ht
    rw [if_neg hl, h1, Option.bind_some]
    repeat' split
    all_goals exact hj _
theorem idx_set (s : ByteArray) (v : S53) (hv : v.f0.toList = s.toList) : ∀ (l : List S53) (i k : Nat), idxV s l i = ((i + k : Nat) : Int) → k < l.length → idxV s (l.set k v) i = ((i + k : Nat) : Int)
  | [], i, k, h, hk => by simp at hk
  | p :: l, i, k, h, hk => by
    unfold idxV at h
    by_cases hp : (p.f0.toList == s.toList) = true
    · rw [if_pos hp] at h
      obtain rfl : k = 0 := by omega
      rw [List.set_cons_zero, idxV, if_pos (by rw [hv]; exact beq_self_eq_true _), Nat.add_zero]
    · rw [if_neg hp] at h
      rcases idxV_spec s l (i + 1) with h1 | ⟨k', q, h1, _, _⟩
      · omega
      · obtain ⟨m, rfl⟩ : ∃ m, k = m + 1 := ⟨k - 1, by omega⟩
        rw [List.set_cons_succ, idxV, if_neg hp, idx_set s v hv l (i + 1) m (by rw [h]; congr 1; omega) (by simpa using hk)]
        congr 1
        omega
theorem idx_append (s : ByteArray) (v : S53) (hv : v.f0.toList = s.toList) : ∀ (l : List S53) (i : Nat), idxV s l i = -1 → idxV s (l ++ [v]) i = ((i + l.length : Nat) : Int)
  | [], i, h => by
    rw [List.nil_append, idxV, if_pos (by rw [hv]; exact beq_self_eq_true _)]
    rfl
  | p :: l, i, h => by
    unfold idxV at h
    by_cases hp : (p.f0.toList == s.toList) = true
    · rw [if_pos hp] at h
      omega
    · rw [if_neg hp] at h
      rw [List.cons_append, idxV, if_neg hp, idx_append s v hv l (i + 1) h]
      congr 1
      simp
      omega
/-- A store in which the first variable of a name is v. -/
def HasV (s : ByteArray) (xs : List S53) (v : S53) : Prop := ∃ k : Nat, idxV s xs 0 = (k : Int) ∧ xs[k]? = some v
theorem fits_more {xs ys : List S53} {v : S53} (h : fitsV xs = true) (hl : ys.length ≤ xs.length + 1) (hx : xs.length ≤ 1048577) (hm : ∀ y ∈ ys, y ∈ xs ∨ y = v) (hv : v.f3.length ≤ 1000000000) : fitsV ys = true := by
  unfold fitsV at h ⊢
  simp only [Bool.and_eq_true, decide_eq_true_eq, List.all_eq_true] at h ⊢
  refine ⟨by omega, fun y hy => ?_⟩
  rcases hm y hy with hy | rfl
  · exact h.2 y hy
  · exact hv
theorem with_cases (xs : List S53) (rs : List ByteArray) (st : Int) (s t : ByteArray) (b : Bool) (l : List ByteArray) (hfit : fitsV xs = true) (hx : xs.length ≤ 1048577) (hr : rs.length ≤ 1048576) (hll : l.length ≤ 1000000000) :
    (U.vars_Store_with.f xs rs st s t b l = some ([], [], 0, 17) ∧ idxV s xs 0 = -1) ∨ ∃ ys, U.vars_Store_with.f xs rs st s t b l = some (ys, rs, st, 0) ∧ HasV s ys ⟨s, t, b, l⟩ ∧ fitsV ys = true ∧ (ys.length ≤ xs.length ∨ ys.length ≤ 1024) := by
  have hlx : xs.length ≤ 1099511627776 := by omega
  unfold U.vars_Store_with.f vars_own.f slices_Clone_string_string.f vars_Store_find.f
  rw [if_pos hfit, Option.bind_some, if_pos (by omega), Option.bind_some, if_pos hlx, Option.bind_some]
  rcases idxV_spec s xs 0 with hi | ⟨k, p, hi, hp, _⟩
  · rw [hi, if_neg (by decide)]
    by_cases h1 : (xs.length : Int) ≥ 1024
    · rw [if_pos h1]
      exact .inl ⟨rfl, rfl⟩
    · rw [if_neg h1, if_pos (by omega)]
      refine .inr ⟨_, rfl, ⟨xs.length, ?_, by rw [List.getElem?_append_right (Nat.le_refl _)]; simp⟩, fits_more (v := ⟨s, t, b, l⟩) hfit (by simp) hx (fun y hy => by simpa using hy) hll, .inr (by simp; omega)⟩
      rw [idx_append s ⟨s, t, b, l⟩ rfl xs 0 hi, Nat.zero_add]
  · have hlt := (List.getElem?_eq_some_iff.1 hp).1
    rw [Nat.zero_add] at hi
    rw [hi, if_pos (by omega), if_pos (by omega), if_pos (by omega)]
    refine .inr ⟨_, rfl, ⟨k, ?_, ?_⟩, fits_more (v := ⟨s, t, b, l⟩) hfit (by rw [List.length_set]; omega) hx (fun y hy => ?_) hll, .inl (by rw [List.length_set]; exact Nat.le_refl _)⟩
    · have := idx_set s ⟨s, t, b, l⟩ rfl xs 0 k (by rw [hi, Nat.zero_add]) hlt
      rw [Nat.zero_add] at this
      rw [Int.toNat_natCast]
      exact this
    · rw [Int.toNat_natCast, List.getElem?_set_self hlt]
    · rcases List.mem_or_eq_of_mem_set hy with hy | hy
      · exact .inl hy
      · exact .inr hy
theorem ask_total (l : List ByteArray) (hl : l.length ≤ 1048576) : ∀ (d i K : Nat), i + d = l.length → d + 1 ≤ K → ∃ r, U.vars_ask.l0 K l (l.length : Int) (i : Int) = some r
  | 0, i, K, hd, hK => by
    obtain ⟨K, rfl⟩ : ∃ k, K = k + 1 := ⟨K - 1, by omega⟩
    rw [U.vars_ask.l0, if_neg (by omega)]
    exact ⟨_, rfl⟩
  | d + 1, i, K, hd, hK => by
    obtain ⟨K, rfl⟩ : ∃ k, K = k + 1 := ⟨K - 1, by omega⟩
    have hil : i < l.length := by omega
    rw [U.vars_ask.l0, if_pos (by omega), if_pos (by omega), if_pos (by omega), rd_at l i hil]
    unfold strings_IndexByte.f
    rw [Option.bind_some]
    split
    · exact ⟨_, rfl⟩
    · split
      · exact ⟨_, rfl⟩
      · rw [w1 i (by omega)]
        exact ask_total l hl d (i + 1) K (by omega) (by omega)
theorem ask_f (l : List ByteArray) (hl : l.length ≤ 1048576) (K : Nat) (hK : 1048577 ≤ K) : ∃ r, U.vars_ask.f K l = some r := ask_total l hl l.length 0 K (by omega) (by omega)
theorem name_some (s : ByteArray) (h : s.size ≤ 1000000000) : octets_Name.f s = some (nameOk s) := by
  unfold octets_Name.f nameOk
  rw [if_pos h]
theorem clone_some (l : List ByteArray) (h : l.length ≤ 1000000000) : slices_Clone_string_string.f l = some l := by
  unfold slices_Clone_string_string.f
  rw [if_pos h]
/-- What a list put tells. -/
theorem putlist_cases (xs : List S53) (rs : List ByteArray) (st : Int) (s : ByteArray) (l : List ByteArray) (hfit : fitsV xs = true) (hx : xs.length ≤ 1048576) (hr : rs.length ≤ 1048576) (hs : s.size ≤ 1000000000) (hl : l.length ≤ 1048576) (K : Nat) (hK : 1048580 ≤ K) :
    (∃ e, U.vars_PutList.f K xs rs st s l = some ([], [], 0, e) ∧ e ≠ 0) ∨ ∃ ys, U.vars_PutList.f K xs rs st s l = some (ys, rs, st, 0) ∧ nameOk s = true ∧ HasV s ys ⟨s, ⟨#[]⟩, true, l⟩ ∧ fitsV ys = true ∧ ys.length ≤ 1048577 := by
  obtain ⟨K, rfl⟩ : ∃ k, K = k + 1 := ⟨K - 1, by omega⟩
  unfold U.vars_PutList.f
  rw [name_some s hs, Option.bind_some]
  have hj : ∀ z, (∃ e, U.vars_PutList.j0 (K + 1) s l z xs rs st = some ([], [], 0, e) ∧ e ≠ 0) ∨ ∃ ys, U.vars_PutList.j0 (K + 1) s l z xs rs st = some (ys, rs, st, 0) ∧ nameOk s = true ∧ HasV s ys ⟨s, ⟨#[]⟩, true, l⟩ ∧ fitsV ys = true ∧ ys.length ≤ 1048577 := fun z => by
    rw [U.vars_PutList.j0]
    cases z
    · rw [if_neg Bool.false_ne_true, clone_some l (by omega), Option.bind_some]
      unfold U.vars_Store_put.f
      rw [name_some s hs, Option.bind_some]
      by_cases hn : nameOk s = true
      · rw [if_pos hn]
        obtain ⟨r, hr1⟩ := ask_f l hl K (by omega)
        rw [hr1, Option.bind_some]
        by_cases h0 : r = 0
        · rw [if_pos h0]
          rcases with_cases xs rs st s ⟨#[]⟩ true l hfit (by omega) hr (by omega) with ⟨h1, _⟩ | ⟨ys, h1, h2, h3, h4⟩
          · rw [h1]
            exact .inl ⟨17, rfl, by decide⟩
          · rw [h1]
            exact .inr ⟨ys, rfl, hn, h2, h3, by omega⟩
        · rw [if_neg h0]
          exact .inl ⟨r, rfl, h0⟩
      · rw [if_neg hn]
        exact .inl ⟨31, rfl, by decide⟩
    · rw [if_pos rfl]
      exact .inl ⟨3, rfl, by decide⟩
  split
  · exact hj _
  · exact hj _
theorem not_at {s : ByteArray} (h : nameOk s = true) : s.toList ≠ [64] := fun e => by
  have : s = ⟨#[64]⟩ := by
    apply ByteArray.ext
    apply Array.toList_inj.1
    rw [← Lib.toList_data, e]
  rw [this] at h
  exact absurd h (by decide +kernel)
theorem list_some (xs : List S53) (rs : List ByteArray) (st : Int) (s t : ByteArray) (l : List ByteArray) (hx : xs.length ≤ 1099511627776) (hs : s.size ≤ 1000000000) (hn : nameOk s = true) (hv : HasV s xs ⟨s, t, true, l⟩) (hl : l.length ≤ 1000000000) (K : Nat) : U.vars_List.f (K + 1) xs rs st s = some (l, true) := by
  obtain ⟨k, h1, h2⟩ := hv
  obtain ⟨h3, h4⟩ := List.getElem?_eq_some_iff.1 h2
  unfold U.vars_List.f vars_Store_find.f
  rw [if_neg (not_at hn), if_pos hx, Option.bind_some, h1, if_neg (by omega), name_some s hs, Option.bind_some, hn, U.vars_List.j0, if_neg (by simp), if_pos (by omega), if_pos (by omega), rd_get h3, h4]
  dsimp only
  rw [if_pos rfl, clone_some l hl, Option.bind_some]
theorem list_none (s : ByteArray) (hn : nameOk s = true) (K : Nat) : U.vars_List.f (K + 1) [] [] 0 s = some ([], false) := by
  unfold U.vars_List.f vars_Store_find.f
  rw [if_neg (not_at hn), if_pos (by decide), Option.bind_some, show idxV s [] 0 = -1 from rfl, if_pos (by decide), U.vars_List.j0, if_pos rfl]
theorem putel_len (l : List ByteArray) (k : Nat) (t : ByteArray) (hk : k ≤ l.length) : (((l ++ [(⟨#[]⟩ : ByteArray)]).take (max l.length (k + 1))).set k t).length = max l.length (k + 1) := by
  rw [List.length_set, List.length_take, List.length_append, List.length_singleton]
  omega
/-- What an element put tells. -/
theorem putel_cases (xs : List S53) (rs : List ByteArray) (st at_ : Int) (s t u : ByteArray) (l : List ByteArray) (hfit : fitsV xs = true) (hx : xs.length ≤ 1048577) (hr : rs.length ≤ 1048576) (hs : s.size ≤ 1000000000) (hn : nameOk s = true) (hv : HasV s xs ⟨s, u, true, l⟩) (hl : l.length ≤ 1048576) (K : Nat) (hK : 1048580 ≤ K) :
    (∃ e, U.vars_PutElement.f K xs rs st s at_ t = some ([], [], 0, e) ∧ e ≠ 0) ∨ ∃ ys k, U.vars_PutElement.f K xs rs st s at_ t = some (ys, rs, st, 0) ∧ at_ = ((k : Nat) : Int) ∧ k ≤ l.length ∧ HasV s ys ⟨s, ⟨#[]⟩, true, ((l ++ [(⟨#[]⟩ : ByteArray)]).take (max l.length (k + 1))).set k t⟩ ∧ fitsV ys = true ∧ ys.length ≤ 1048577 := by
  obtain ⟨K, rfl⟩ : ∃ k, K = k + 1 := ⟨K - 1, by omega⟩
  obtain ⟨r, hr1⟩ := ask_f [t] (by simp) (K + 1) (by omega)
  unfold U.vars_PutElement.f
  rw [name_some s hs, Option.bind_some, if_pos hn, hr1, Option.bind_some]
  by_cases h0 : r = 0
  · rw [if_pos h0, list_some xs rs st s u l (by omega) hs hn hv (by omega) K, Option.bind_some]
    unfold pieces_PutElement.f putElB
    dsimp only
    rw [if_pos (by omega), Option.bind_some]
    by_cases h1 : at_ < 0 ∨ (l.length : Int) < at_
    · rw [if_pos h1]
      exact .inl ⟨4, rfl, by decide⟩
    · rw [if_neg h1]
      by_cases h2 : at_ = l.length ∧ 1024 ≤ at_
      · rw [if_pos h2]
        exact .inl ⟨17, rfl, by decide⟩
      · rw [if_neg h2]
        dsimp only
        rw [if_pos rfl]
        obtain ⟨k, rfl⟩ : ∃ k : Nat, at_ = (k : Int) := ⟨at_.toNat, by omega⟩
        rw [Int.toNat_natCast]
        have hk : k ≤ l.length := by omega
        have hpl := putel_len l k t hk
        rcases with_cases xs rs st s ⟨#[]⟩ true (((l ++ [(⟨#[]⟩ : ByteArray)]).take (max l.length (k + 1))).set k t) hfit hx hr (by omega) with ⟨h3, h4⟩ | ⟨ys, h3, h4, h5, h6⟩
        · obtain ⟨k', h7, _⟩ := hv
          omega
        · rw [h3]
          exact .inr ⟨ys, k, rfl, rfl, hk, h4, h5, by omega⟩
  · rw [if_neg h0]
    exact .inl ⟨r, rfl, h0⟩
theorem el_at (l : List ByteArray) (k : Nat) (t : ByteArray) (hk : k ≤ l.length) : rdOf ByteArray.empty (((l ++ [(⟨#[]⟩ : ByteArray)]).take (max l.length (k + 1))).set k t) (k : Int) = t := by
  have hlt : k < (((l ++ [(⟨#[]⟩ : ByteArray)]).take (max l.length (k + 1))).set k t).length := by
    rw [putel_len l k t hk]
    exact Nat.lt_of_lt_of_le (Nat.lt_succ_self k) (Nat.le_max_right _ _)
  exact (rd_at _ k hlt).trans (List.getElem_set_self _)
theorem mx_at (n k : Nat) (hk : k ≤ 4398046511104) : mx (n : Int) (wrap64 ((k : Int) + 1)) = ((max n (k + 1) : Nat) : Int) := by
  rw [w1 k hk]
  unfold mx
  split <;> omega
set_option maxHeartbeats 1000000 in
theorem VarsListsU (xs : List S53) (rs : List ByteArray) (st : Int) (s : ByteArray) (l : List ByteArray) (at_ : Int) (t : ByteArray) (hx : xs.length ≤ 1048576) (hf : ∀ x ∈ xs, x.f3.length ≤ 1048576 ∧ x.f0.size ≤ 1048576 ∧ x.f1.size ≤ 1048576 ∧ ∀ y ∈ x.f3, y.size ≤ 1048576) (hr : rs.length ≤ 1048576) (hrs : ∀ y ∈ rs, y.size ≤ 1048576)
    (hs : s.size ≤ 1048576) (hl : l.length ≤ 1048576) : ∃ K, U.cowrielaw20_VarsLists.f K xs rs st s l at_ t = some true := by
  obtain ⟨K, hK⟩ : ∃ K, K = 100000000 := ⟨_, rfl⟩
  refine ⟨K + 1 + 1, ?_⟩
  have hK1 : 1048577 ≤ K + 1 := by omega
  have hK2 : 1048580 ≤ K + 1 := by omega
  have hK3 : 1048580 ≤ K + 1 + 1 := by omega
  have hK4 : 50000000 ≤ K + 1 + 1 := by omega
  clear hK
  have hfit : fitsV xs = true := by
    unfold fitsV
    simp only [Bool.and_eq_true, decide_eq_true_eq, List.all_eq_true]
    exact ⟨by omega, fun x hx => by have := (hf x hx).1; omega⟩
  unfold U.cowrielaw20_VarsLists.f
  rw [show cowrielaw20_alive.f = some true from rfl, Option.bind_some, if_pos rfl, of_some xs rs st hx (fun x hx => (hf x hx).1) hr (K + 1 + 1) (by omega), Option.bind_some]
  dsimp only
  rcases putlist_cases xs rs st s l hfit hx hr (by omega) hl (K + 1 + 1) hK3 with ⟨e, h1, h2⟩ | ⟨ys, h1, hn, hv, hfy, hy⟩
  · rw [h1, Option.bind_some]
    dsimp only
    rw [num_ok, Option.bind_some, if_neg h2, U.cowrielaw20_VarsLists.j0, if_pos rfl, num_ok, Option.bind_some, if_neg h2]
    rfl
  · rw [h1, Option.bind_some]
    dsimp only
    obtain ⟨c, hc⟩ := check_total xs rs st hr hrs hf (K + 1 + 1) hK4
    rw [num_ok, Option.bind_some, if_pos rfl, hc, Option.bind_some, U.cowrielaw20_VarsLists.j0]
    by_cases h0 : c = 0
    · rw [if_neg (by simp [h0]), list_some ys rs st s ⟨#[]⟩ l (by omega) (by omega) hn hv (by omega) K, Option.bind_some]
      rcases putel_cases ys rs st at_ s t ⟨#[]⟩ l hfy hy hr (by omega) hn hv hl (K + 1) hK2 with ⟨e, g1, g2⟩ | ⟨zs, k, g1, rfl, hk, gv, gf, gl⟩
      · rw [g1, Option.bind_some]
        dsimp only
        rw [list_none s hn K, Option.bind_some, num_ok, Option.bind_some, if_neg g2, if_pos rfl, texts_self l hl (K + 1) hK1, Option.bind_some, if_pos rfl]
        rfl
      · have hpl := putel_len l k t hk
        rw [g1, Option.bind_some]
        dsimp only
        rw [list_some zs rs st s ⟨#[]⟩ _ (by omega) (by omega) hn gv (by omega) K, Option.bind_some]
        dsimp only
        have hmx := mx_at l.length k (by omega)
        have hel := el_at l k t hk
        have hlt2 : (k : Int) < ((max l.length (k + 1) : Nat) : Int) := by
          have := Nat.lt_of_lt_of_le (Nat.lt_succ_self k) (Nat.le_max_right l.length (k + 1))
          exact_mod_cast this
        have hge : (0 : Int) ≤ (k : Int) := Int.natCast_nonneg k
        rw [num_ok, Option.bind_some, if_pos rfl, if_pos rfl, texts_self l hl (K + 1) hK1, Option.bind_some, if_pos rfl, hmx, hpl, if_pos rfl, if_pos hge, if_pos hlt2, hel, beq_self_eq_true]
    · rw [if_pos (by simpa using h0), num_ok, Option.bind_some, if_pos rfl]
end Go.Proofs.YteoimkgjngdkdaaDoor.PureL
