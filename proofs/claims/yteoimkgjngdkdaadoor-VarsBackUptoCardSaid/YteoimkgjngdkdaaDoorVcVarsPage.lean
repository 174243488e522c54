/- Proved: what the page's Check at 0 says of a store; the page's name, digits, find and joined are the program's. Plain Lean: no program's step. Conditions: at most 2 to the 20 octets in a text, variables, arguments. -/
import Derived.Test.YteoimkgjngdkdaaDoorVcVarsHelp
import Derived.Test.YteoimkgjngdkdaaDoorVcNumRef
import Derived.Test.YteoimkgjngdkdaaDoorVcCheckV
set_option linter.unusedVariables false
set_option linter.unusedSimpArgs false
namespace Go.Proofs.YteoimkgjngdkdaaDoor.PureB
open Go.RowKit Go.Proofs.YteoimkgjngdkdaaDoor.P Go.Proofs.YteoimkgjngdkdaaDoor.Ext Go.Proofs.YteoimkgjngdkdaaDoorW.PrintWords Go.Proofs.YteoimkgjngdkdaaDoor.PureL
theorem idx_none0 (c : UInt8) : ∀ l : List UInt8, (∀ b ∈ l, b ≠ c) → Lib.indexByte l c = -1
  | [], _ => rfl
  | b :: l, h => by
    unfold Lib.indexByte
    rw [if_neg (by have := h b List.mem_cons_self; simpa using this), idx_none0 c l (fun x hx => h x (List.mem_cons_of_mem _ hx))]
    rfl
theorem text_l0_ok (s : ByteArray) (hs : s.size ≤ 1048576) : ∀ (K i : Nat), i ≤ s.size → T.cowrieref20_text.l0 K s (i : Int) = some 0 → (∀ b ∈ s.data.toList.drop i, b ≠ 0) ∧ s.size ≤ 65536
  | 0, i, _, h => by simp [T.cowrieref20_text.l0] at h
  | K + 1, i, hi, h => by
    rw [T.cowrieref20_text.l0] at h
    by_cases hlt : i < s.size
    · have hil : i < s.data.toList.length := by rw [← ba_size]; exact hlt
      rw [if_pos (by omega), if_pos (by omega), w1 i (by omega), PureN.bt_list s i hil] at h
      split at h
      · cases h
      · rename_i hb
        obtain ⟨h1, h2⟩ := text_l0_ok s hs K (i + 1) (by omega) h
        refine ⟨fun b hb' => ?_, h2⟩
        rw [List.drop_eq_getElem_cons hil] at hb'
        rcases List.mem_cons.1 hb' with rfl | hb'
        · intro e
          apply hb
          rw [e]
          rfl
        · exact h1 b hb'
    · rw [if_neg (by omega)] at h
      split at h
      · cases h
      · refine ⟨fun b hb => ?_, by omega⟩
        rw [List.drop_of_length_le (by rw [← ba_size]; omega)] at hb
        cases hb
theorem text_ok (s : ByteArray) (hs : s.size ≤ 1048576) (K : Nat) (h : T.cowrieref20_text.f K s = some 0) : okT s = true := by
  obtain ⟨h1, h2⟩ := text_l0_ok s hs K 0 (Nat.zero_le _) h
  unfold okT
  rw [List.drop_zero] at h1
  rw [decide_eq_true h2, idx_none0 0 _ h1]
  rfl
theorem texts_l0_ok (l : List ByteArray) (hl : l.length ≤ 1048576) (hs : ∀ x ∈ l, x.size ≤ 1048576) : ∀ (K i : Nat), i ≤ l.length → T.cowrieref20_texts.l0 K l (i : Int) = some 0 → ∀ x ∈ l.drop i, okT x = true
  | 0, i, _, h => by simp [T.cowrieref20_texts.l0] at h
  | K + 1, i, hi, h => by
    rw [T.cowrieref20_texts.l0] at h
    by_cases hlt : i < l.length
    · rw [if_pos (by omega), if_pos (by omega), w1 i (by omega), rd_at l i hlt] at h
      cases ht : T.cowrieref20_text.f K l[i] with
      | none => rw [ht] at h; cases h
      | some t =>
        rw [ht, Option.bind_some] at h
        split at h
        · rename_i h0
          subst h0
          rw [List.drop_eq_getElem_cons hlt]
          intro x hx
          rcases List.mem_cons.1 hx with rfl | hx
          · exact text_ok _ (hs _ (List.getElem_mem hlt)) K ht
          · exact texts_l0_ok l hl hs K (i + 1) (by omega) h x hx
        · rename_i h0
          rw [Option.bind_some] at h
          exact absurd (Option.some.inj h) h0
    · intro x hx
      rw [List.drop_of_length_le (by omega)] at hx
      cases hx
theorem texts_ok (l : List ByteArray) (hl : l.length ≤ 1048576) (hs : ∀ x ∈ l, x.size ≤ 1048576) (K : Nat) (h : T.cowrieref20_texts.f K l = some 0) : ∀ x ∈ l, okT x = true := by
  have := texts_l0_ok l hl hs K 0 (Nat.zero_le _) h
  rw [List.drop_zero] at this
  exact this
theorem letter_all : ∀ c : Fin 256, T.cowrieref01_letter.f ((c : Nat) : Int) = some (letterB c) := by decide +kernel
theorem digit_all : ∀ c : Fin 256, T.cowrieref01_digit.f ((c : Nat) : Int) = some (digitB c) := by decide +kernel
theorem apart_all : ∀ c : Fin 256, (letterB c && digitB c) = false := by decide +kernel
theorem letter_nat (c : UInt8) : T.cowrieref01_letter.f (c.toNat : Int) = some (letterB c.toNat) := letter_all ⟨c.toNat, c.toNat_lt⟩
theorem digit_nat (c : UInt8) : T.cowrieref01_digit.f (c.toNat : Int) = some (digitB c.toNat) := digit_all ⟨c.toNat, c.toNat_lt⟩
theorem apart_nat (c : UInt8) (h : letterB c.toNat = true) : digitB c.toNat = false := by
  have := apart_all ⟨c.toNat, c.toNat_lt⟩
  rw [h, Bool.true_and] at this
  exact this
theorem name_l0 (s : ByteArray) (hs : s.size ≤ 1048576) : ∀ (d i K : Nat), i + d = s.size → d + 1 ≤ K → 0 < i → T.cowrieref01_Name.l0 K s (i : Int) = some ((s.data.toList.drop i).all (fun c => nameP c.toNat) && decide (s.size ≤ 64))
  | 0, i, K, hd, hK, hi => by
    obtain ⟨K, rfl⟩ : ∃ k, K = k + 1 := ⟨K - 1, by omega⟩
    rw [T.cowrieref01_Name.l0, if_neg (by omega), if_pos (by omega), List.drop_of_length_le (by rw [← ba_size]; omega)]
    congr 1
    simp only [List.all_nil, Bool.true_and]
    exact decide_eq_decide.2 (by omega)
  | d + 1, i, K, hd, hK, hi => by
    obtain ⟨K, rfl⟩ : ∃ k, K = k + 1 := ⟨K - 1, by omega⟩
    have hil : i < s.data.toList.length := by rw [← ba_size]; omega
    have ih := name_l0 s hs d (i + 1) K (by omega) (by omega) (by omega)
    rw [T.cowrieref01_Name.l0, if_pos (by omega), if_pos (by omega), PureN.bt_list s i hil, letter_nat, digit_nat, Option.bind_some, Option.bind_some, w1 i (by omega), ih, List.drop_eq_getElem_cons hil, List.all_cons]
    unfold nameP
    generalize s.data.toList[i] = c
    cases letterB c.toNat
    · rw [if_neg Bool.false_ne_true, if_neg (by omega)]
      cases digitB c.toNat
      · rfl
      · rfl
    · rfl
theorem name_ref (s : ByteArray) (hs : s.size ≤ 1048576) (K : Nat) (hK : 1048577 ≤ K) : T.cowrieref01_Name.f K s = some (nameOk s) := by
  obtain ⟨K, rfl⟩ : ∃ k, K = k + 1 := ⟨K - 1, by omega⟩
  unfold T.cowrieref01_Name.f nameOk everyB
  by_cases h0 : s.size = 0
  · rw [T.cowrieref01_Name.l0, if_neg (by omega), if_neg (by omega), decide_eq_true h0]
    simp
  · have hil : 0 < s.data.toList.length := by rw [← ba_size]; omega
    have hb := PureN.bt_list s 0 hil
    rw [show ((0 : Nat) : Int) = 0 from rfl] at hb
    have hl := name_l0 s hs (s.size - 1) 1 K (by omega) (by omega) (by omega)
    rw [show ((1 : Nat) : Int) = 1 from rfl] at hl
    have hg : s.data.toList.getD 0 0 = s.data.toList[0] := by rw [List.getD_eq_getElem?_getD, List.getElem?_eq_getElem hil]; rfl
    have ha : s.data.toList.all (fun c => nameP c.toNat) = (nameP s.data.toList[0].toNat && (s.data.toList.drop 1).all (fun c => nameP c.toNat)) := by
      conv => lhs; rw [← List.drop_zero (l := s.data.toList), List.drop_eq_getElem_cons hil]
      rw [List.all_cons]
    rw [T.cowrieref01_Name.l0, if_pos (by omega), if_pos (by omega), hb, letter_nat, digit_nat, Option.bind_some, Option.bind_some, show wrap64 (0 + 1) = 1 from w1 0 (by decide), hl, decide_eq_false h0, hg, ha]
    have hap := apart_nat s.data.toList[0]
    unfold nameP at *
    generalize s.data.toList[0] = c at *
    cases hlc : letterB c.toNat
    · rw [if_neg Bool.false_ne_true, if_pos rfl]
      cases digitB c.toNat <;> simp
    · rw [hap hlc, if_pos rfl]
      generalize (s.data.toList.drop 1).all _ = x
      cases x <;> simp
theorem digits_l0 (s : ByteArray) (hs : s.size ≤ 1048576) : ∀ (d i K : Nat), i + d = s.size → d + 1 ≤ K → T.cowrieref01_Digits.l0 K s (i : Int) = some (!decide (s.size = 0) && (s.data.toList.drop i).all (fun c => digitB c.toNat))
  | 0, i, K, hd, hK => by
    obtain ⟨K, rfl⟩ : ∃ k, K = k + 1 := ⟨K - 1, by omega⟩
    rw [T.cowrieref01_Digits.l0, if_neg (by omega), List.drop_of_length_le (by rw [← ba_size]; omega)]
    congr 1
    by_cases h0 : s.size = 0
    · rw [decide_eq_true h0, decide_eq_false (by omega)]; rfl
    · rw [decide_eq_false h0, decide_eq_true (by omega)]; rfl
  | d + 1, i, K, hd, hK => by
    obtain ⟨K, rfl⟩ : ∃ k, K = k + 1 := ⟨K - 1, by omega⟩
    have hil : i < s.data.toList.length := by rw [← ba_size]; omega
    have ih := digits_l0 s hs d (i + 1) K (by omega) (by omega)
    rw [T.cowrieref01_Digits.l0, if_pos (by omega), if_pos (by omega), PureN.bt_list s i hil, digit_nat, Option.bind_some, w1 i (by omega), ih, List.drop_eq_getElem_cons hil, List.all_cons]
    generalize s.data.toList[i] = c
    rw [decide_eq_false (by omega)]
    cases digitB c.toNat
    · rfl
    · rfl
theorem digits_ref (s : ByteArray) (hs : s.size ≤ 1048576) (K : Nat) (hK : 1048577 ≤ K) : T.cowrieref01_Digits.f K s = some (everyB digitB s) := by
  have := digits_l0 s hs s.size 0 K (by omega) (by omega)
  rw [List.drop_zero] at this
  exact this
theorem check_l1_ok (xs : List S53) (rs : List ByteArray) (st : Int) (a b : ByteArray) (c : Bool) (t : List ByteArray) (i : Nat) (hi : i < xs.length) (hl : xs.length ≤ 1048576) : ∀ (K j : Nat), j ≤ i → T.cowrieref20_Check.l1 K (i : Int) (j : Int) xs rs st a b c t = some 0 →
    (∀ (k : Nat) (hk : k < xs.length), j ≤ k → k < i → xs[k].f0.toList ≠ a.toList) ∧ ∃ K', K' < K ∧ T.cowrieref20_Check.l0 K' ((i + 1 : Nat) : Int) xs rs st = some 0
  | 0, j, _, h => by simp [T.cowrieref20_Check.l1] at h
  | K + 1, j, hj, h => by
    rw [T.cowrieref20_Check.l1] at h
    by_cases hlt : j < i
    · have hjl : j < xs.length := by omega
      rw [if_pos (by omega), if_pos (by omega), if_pos (by omega), rd_get hjl] at h
      split at h
      · cases h
      · rename_i hne
        rw [w1 j (by omega)] at h
        obtain ⟨h1, K', h2, h3⟩ := check_l1_ok xs rs st a b c t i hi hl K (j + 1) (by omega) h
        refine ⟨fun k hk hjk hki => ?_, K', by omega, h3⟩
        rcases Nat.eq_or_lt_of_le hjk with rfl | hjk
        · exact hne
        · exact h1 k hk hjk hki
    · rw [if_neg (by omega), w1 i (by omega)] at h
      exact ⟨fun k hk hjk hki => by omega, K, by omega, h⟩
def Fit (xs : List S53) : Prop := ∀ x ∈ xs, x.f3.length ≤ 1048576 ∧ x.f0.size ≤ 1048576 ∧ x.f1.size ≤ 1048576 ∧ ∀ y ∈ x.f3, y.size ≤ 1048576
set_option maxHeartbeats 1000000 in
theorem check_l0_ok (xs : List S53) (rs : List ByteArray) (st : Int) (hl : xs.length ≤ 1048576) (hf : Fit xs) : ∀ (K i : Nat), i ≤ xs.length → T.cowrieref20_Check.l0 K (i : Int) xs rs st = some 0 →
    ∀ (j : Nat) (hj : j < xs.length), i ≤ j → okV xs[j] = true ∧ ∀ (k : Nat) (hk : k < j), xs[k].f0.toList ≠ xs[j].f0.toList := by
  intro K
  induction K using Nat.strongRecOn with
  | ind K ih =>
  intro i hi h j hj hij
  cases K with
  | zero => simp [T.cowrieref20_Check.l0] at h
  | succ K =>
  have hil : i < xs.length := by omega
  obtain ⟨g1, g2, g3, g4⟩ := hf _ (List.getElem_mem hil)
  have hj2 : ∀ b x y z u, T.cowrieref20_Check.j2 K (i : Int) b xs rs st x y z u = some 0 → b = false ∧ (∀ (k : Nat) (hk : k < xs.length), k < i → xs[k].f0.toList ≠ x.toList) ∧ ∃ K', K' < K ∧ T.cowrieref20_Check.l0 K' ((i + 1 : Nat) : Int) xs rs st = some 0 := fun b x y z u h => by
    cases K with
    | zero => simp [T.cowrieref20_Check.j2] at h
    | succ K =>
      rw [T.cowrieref20_Check.j2] at h
      cases b
      · rw [if_neg Bool.false_ne_true] at h
        obtain ⟨h1, K', h2, h3⟩ := check_l1_ok xs rs st x y z u i hil hl K 0 (Nat.zero_le _) h
        exact ⟨rfl, fun k hk hki => h1 k hk (Nat.zero_le _) hki, K', by omega, h3⟩
      · rw [if_pos rfl] at h
        cases h
  have key : okV xs[i] = true ∧ (∀ (k : Nat) (hk : k < xs.length), k < i → xs[k].f0.toList ≠ xs[i].f0.toList) ∧ ∃ K', K' < K ∧ T.cowrieref20_Check.l0 K' ((i + 1 : Nat) : Int) xs rs st = some 0 := by
    rw [T.cowrieref20_Check.l0, if_pos (by omega), if_pos (by omega), rd_get hil] at h
    cases hn : T.cowrieref01_Name.f K xs[i].f0 with
    | none => rw [hn] at h; cases h
    | some b1 =>
      rw [hn, Option.bind_some] at h
      cases b1
      · rw [if_neg Bool.false_ne_true] at h
        exact absurd (hj2 _ _ _ _ _ h).1 (by decide)
      · rw [if_pos rfl] at h
        cases ht : T.cowrieref20_text.f K xs[i].f1 with
        | none => rw [ht] at h; cases h
        | some t1 =>
          rw [ht, Option.bind_some] at h
          by_cases h1 : t1 = 0
          · subst h1
            rw [if_pos rfl] at h
            cases hts : T.cowrieref20_texts.f K xs[i].f3 with
            | none => rw [hts] at h; cases h
            | some t2 =>
              rw [hts, Option.bind_some] at h
              by_cases h2 : t2 = 0
              · subst h2
                rw [if_pos rfl] at h
                by_cases h3 : (xs[i].f3.length : Int) > 1024
                · rw [if_pos h3] at h
                  exact absurd (hj2 _ _ _ _ _ h).1 (by decide)
                · rw [if_neg h3] at h
                  have hnm : octets_Name.f xs[i].f0 = some true := by
                    have e := name_ref xs[i].f0 g2 (K + 1048577) (by omega)
                    have e2 : T.cowrieref01_Name.f (K + 1048577) xs[i].f0 = some true := by
                      have hm : ∀ n, T.cowrieref01_Name.f (K + n) xs[i].f0 = some true := by
                        intro n
                        induction n with
                        | zero => exact hn
                        | succ n ih2 => exact T.cowrieref01_Name.mono xs[i].f0 (K + n) true ih2
                      exact hm _
                    rw [e2] at e
                    rw [name_some _ (by omega), ← e]
                  have hok : ∀ b : Bool, (!xs[i].f2 || decide (xs[i].f1.size = 0)) = true → (xs[i].f2 || decide (xs[i].f3.length = 0)) = true → okV xs[i] = true := fun _ e1 e2 => by
                    unfold okV
                    rw [hnm, text_ok _ g3 K ht, List.all_eq_true.2 (texts_ok _ g1 g4 K hts), decide_eq_true (by omega), e1, e2]
                    rfl
                  cases hb : xs[i].f2
                  · rw [hb, if_neg Bool.false_ne_true] at h
                    obtain ⟨e1, e2, e3⟩ := hj2 _ _ _ _ _ h
                    have e4 := of_decide_eq_false e1
                    exact ⟨hok true (by rw [hb]; rfl) (by rw [hb, decide_eq_true (by omega)]; rfl), e2, e3⟩
                  · rw [hb, if_pos rfl] at h
                    by_cases h5 : xs[i].f1.toList = []
                    · rw [if_pos h5] at h
                      obtain ⟨e1, e2, e3⟩ := hj2 _ _ _ _ _ h
                      have e4 : xs[i].f1.size = 0 := by rw [ba_size, ← Lib.toList_data, h5]; rfl
                      exact ⟨hok true (by rw [hb, decide_eq_true e4]; rfl) (by rw [hb]; rfl), e2, e3⟩
                    · rw [if_neg h5] at h
                      exact absurd (hj2 _ _ _ _ _ h).1 (by decide)
              · rw [if_neg h2] at h
                exact absurd (hj2 _ _ _ _ _ h).1 (by decide)
          · rw [if_neg h1] at h
            exact absurd (hj2 _ _ _ _ _ h).1 (by decide)
  obtain ⟨k1, k2, K', k3, k4⟩ := key
  rcases Nat.eq_or_lt_of_le hij with rfl | hij
  · exact ⟨k1, fun k hk => k2 k (by omega) hk⟩
  · exact ih K' (by omega) (i + 1) (by omega) k4 j hj hij
theorem check_okS (xs : List S53) (rs : List ByteArray) (st : Int) (hl : xs.length ≤ 1048576) (hf : Fit xs) (hr : rs.length ≤ 1048576) (hrs : ∀ y ∈ rs, y.size ≤ 1048576) (K : Nat) (h : T.cowrieref20_Check.f K xs rs st = some 0) : okS xs rs st = true := by
  have hj0 : ∀ b, T.cowrieref20_Check.j0 K b xs rs st = some 0 → b = false ∧ ∃ K', T.cowrieref20_Check.l0 K' 0 xs rs st = some 0 := fun b h => by
    cases K with
    | zero => simp [T.cowrieref20_Check.j0] at h
    | succ K =>
      rw [T.cowrieref20_Check.j0] at h
      cases b
      · rw [if_neg Bool.false_ne_true] at h
        exact ⟨rfl, K, h⟩
      · rw [if_pos rfl] at h
        cases h
  unfold T.cowrieref20_Check.f at h
  split at h
  · exact absurd (hj0 _ h).1 (by decide)
  · split at h
    · exact absurd (hj0 _ h).1 (by decide)
    · rename_i h1 h2
      cases ht : T.cowrieref20_texts.f K rs with
      | none => rw [ht] at h; cases h
      | some t =>
        rw [ht, Option.bind_some] at h
        split at h
        · rename_i h3
          subst h3
          split at h
          · exact absurd (hj0 _ h).1 (by decide)
          · rename_i h4
            obtain ⟨h5, K', h6⟩ := hj0 _ h
            have h7 := of_decide_eq_false h5
            have h8 := check_l0_ok xs rs st hl hf K' 0 (Nat.zero_le _) h6
            have hv : xs.all okV = true := by
              rw [List.all_eq_true]
              intro x hx
              obtain ⟨j, hj, rfl⟩ := List.getElem_of_mem hx
              exact (h8 j hj (Nat.zero_le _)).1
            have hnd : (xs.map fun p => p.f0.data.toList).Nodup := by
              rw [List.Nodup, List.pairwise_iff_getElem]
              intro i j hi hj hij
              rw [List.getElem_map, List.getElem_map, ← Lib.toList_data, ← Lib.toList_data]
              rw [List.length_map] at hi hj
              exact (h8 j hj (Nat.zero_le _)).2 i hij
            unfold okS
            rw [hv, decide_eq_true (by omega), decide_eq_true (by omega), List.all_eq_true.2 (texts_ok rs hr hrs K ht), decide_eq_true (by omega), decide_eq_true (by omega), decide_eq_true hnd]
            rfl
        · exact absurd (hj0 _ h).1 (by decide)
theorem find_l0 (s : ByteArray) (xs : List S53) (rs : List ByteArray) (st : Int) (hl : xs.length ≤ 1048576) : ∀ (d i K : Nat), i + d = xs.length → d + 1 ≤ K → T.cowrieref20_find.l0 K s (i : Int) xs rs st = some (idxV s (xs.drop i) i)
  | 0, i, K, hd, hK => by
    obtain ⟨K, rfl⟩ : ∃ k, K = k + 1 := ⟨K - 1, by omega⟩
    rw [T.cowrieref20_find.l0, if_neg (by omega), List.drop_of_length_le (by omega)]
    rfl
  | d + 1, i, K, hd, hK => by
    obtain ⟨K, rfl⟩ : ∃ k, K = k + 1 := ⟨K - 1, by omega⟩
    have hil : i < xs.length := by omega
    rw [T.cowrieref20_find.l0, if_pos (by omega), if_pos (by omega), rd_get hil, idxV_drop s xs i _ (List.getElem?_eq_getElem hil)]
    by_cases he : xs[i].f0.toList = s.toList
    · rw [if_pos he, if_pos (beq_iff_eq.2 he)]
    · rw [if_neg he, if_neg (fun e => he (beq_iff_eq.1 e)), w1 i (by omega)]
      exact find_l0 s xs rs st hl d (i + 1) K (by omega) (by omega)
theorem find_ref (s : ByteArray) (xs : List S53) (rs : List ByteArray) (st : Int) (hl : xs.length ≤ 1048576) (K : Nat) (hK : 1048577 ≤ K) : T.cowrieref20_find.f K xs rs st s = some (idxV s xs 0) := by
  have := find_l0 s xs rs st hl xs.length 0 K (by omega) (by omega)
  rw [List.drop_zero] at this
  exact this
def joinB (rs : List ByteArray) (sep : ByteArray) : ByteArray := ⟨(Lib.join (rs.map (·.data.toList)) sep.data.toList).toArray⟩
theorem append_list (a b : ByteArray) : (a ++ b).data.toList = a.data.toList ++ b.data.toList := by simp [ByteArray.data_append]
theorem joined_l0 (rs : List ByteArray) (hl : rs.length ≤ 1024) (hs : ∀ x ∈ rs, x.size ≤ 65536) : ∀ (d i K : Nat) (acc : ByteArray), i + d = rs.length → d + 1 ≤ K → 0 < i → acc.size ≤ i * 65537 →
    T.cowrieref20_joined.l0 K rs acc (i : Int) = some ⟨(acc.data.toList ++ Lib.joinTail [32] ((rs.drop i).map (·.data.toList))).toArray⟩
  | 0, i, K, acc, hd, hK, hi, ha => by
    obtain ⟨K, rfl⟩ : ∃ k, K = k + 1 := ⟨K - 1, by omega⟩
    rw [T.cowrieref20_joined.l0, if_neg (by omega), List.drop_of_length_le (by omega)]
    congr 1
    apply ba_ext
    simp [Lib.joinTail]
  | d + 1, i, K, acc, hd, hK, hi, ha => by
    obtain ⟨K, rfl⟩ : ∃ k, K = k + 1 := ⟨K - 1, by omega⟩
    have hil : i < rs.length := by omega
    have hx := hs _ (List.getElem_mem hil)
    have h1 : (acc ++ (⟨#[32]⟩ : ByteArray)).size = acc.size + 1 := by rw [ba_size, append_list, List.length_append, ← ba_size]; rfl
    have h2 : ((acc ++ (⟨#[32]⟩ : ByteArray)) ++ rs[i]).size = acc.size + 1 + rs[i].size := by rw [ba_size, append_list, List.length_append, ← ba_size, ← ba_size, h1]
    have hm : (i + 1) * 65537 = i * 65537 + 65537 := by omega
    have ih := joined_l0 rs hl hs d (i + 1) K ((acc ++ (⟨#[32]⟩ : ByteArray)) ++ rs[i]) (by omega) (by omega) (by omega) (by omega)
    rw [T.cowrieref20_joined.l0, if_pos (by omega), if_pos (by omega), if_pos (by omega), if_pos (by omega), rd_at rs i hil, if_pos (by rw [h1]; omega), w1 i (by omega), ih, List.drop_eq_getElem_cons hil]
    congr 1
    apply ba_ext
    simp only [append_list, List.map_cons, Lib.joinTail, List.flatten_cons, List.append_assoc]
theorem joined_ref (rs : List ByteArray) (hl : rs.length ≤ 1024) (hs : ∀ x ∈ rs, x.size ≤ 65536) (K : Nat) (hK : 1048577 ≤ K) : T.cowrieref20_joined.f K rs = some (joinB rs ⟨#[32]⟩) := by
  obtain ⟨K, rfl⟩ : ∃ k, K = k + 1 := ⟨K - 1, by omega⟩
  unfold T.cowrieref20_joined.f joinB
  cases rs with
  | nil =>
    rw [T.cowrieref20_joined.l0, if_neg (by decide)]
    rfl
  | cons x r =>
    have hx := hs x List.mem_cons_self
    have h1 : ((⟨#[]⟩ : ByteArray) ++ x).size = x.size := by rw [ba_size, append_list, List.length_append, ← ba_size x]; show 0 + x.size = x.size; omega
    have ih := joined_l0 (x :: r) hl hs r.length 1 K ((⟨#[]⟩ : ByteArray) ++ x) (by rw [List.length_cons]; omega) (by simp at hl; omega) (by omega) (by omega)
    rw [show ((1 : Nat) : Int) = 1 from rfl] at ih
    have hrd : rdOf ByteArray.empty (x :: r) 0 = x := rfl
    rw [T.cowrieref20_joined.l0, if_pos (by rw [List.length_cons]; omega), if_neg (by decide), if_pos (by decide), hrd, if_pos (by show ByteArray.size ⟨#[]⟩ + x.size ≤ _; show 0 + x.size ≤ _; omega), show wrap64 (0 + 1) = 1 from w1 0 (by decide), ih, List.map_cons, Lib.join_cons]
    congr 1
end Go.Proofs.YteoimkgjngdkdaaDoor.PureB
